/-
 LayoutFits in the second memory. Conditions: none.
-/
import Derived.Test.YtmmapljeeccdnaaDoorL2
namespace Go.Proofs.YtmmapljeeccdnaaDoor
set_option maxRecDepth 100000
set_option maxHeartbeats 16000000 in
theorem fits_law {G : Nat} {σ0 : Mem} {v1 : Value} {l : List Prt} {fr to_ wd tab most : Int} (hG : G ≤ σ0.next) (hno : σ0.abs = Abs.no) (h16 : 16 ≤ G) (hU : U8F σ0.get) (CK : ∀ σ', (∀ b y, σ0.get b = some y → σ'.get b = some y) → SCall G Tryd.prog 5 #[] σ' (.bool true) σ') (h1 : SlF σ0.get 9 v1 l.length (pC l)) :
  WC G Tryd.prog 8 #[v1, .int .i64 fr, .int .i64 to_, .int .i64 wd, .int .i64 tab, .int .i64 most] σ0 fun v _ => v = .bool true := by
 have H := Lies.start hG hno
 generalize σ0.get = F0 at H h1 hU CK
 obtain ⟨F, hF⟩ : ∃ F, F = F0 := ⟨_, rfl⟩
 have le0 : Le F0 F := fun b y h => hF ▸ h
 rw [← hF] at H
 clear hF
 refine WC.enter (fn := Tryd.f8) Tryd.func8 rfl ?_
 refine W.rg [(0, v1), (1, .int .i64 fr), (2, .int .i64 to_), (3, .int .i64 wd), (4, .int .i64 tab), (5, .int .i64 most)] fun TA => ?_
 refine W.seq (W.region ?_)
 refine RW.v ?_
 refine RW.nil ?_
 refine W.rg [(0, v1), (1, .int .i64 fr), (2, .int .i64 to_), (3, .int .i64 wd), (4, .int .i64 tab), (5, .int .i64 most)] fun TA => ?_
 refine W.seq (W.region ?_)
 refine RW.cl ?_
 refine ⟨_, _, (CK _ fun b y h => H.old _ _ (le0 b y h)), ?_⟩
 refine RW.v ?_
 refine RW.nil ?_
 refine W.rg [(0, v1), (1, .int .i64 fr), (2, .int .i64 to_), (3, .int .i64 wd), (4, .int .i64 tab), (5, .int .i64 most), (13, .bool true)] fun TA => ?_
 refine W.seq ?_
 refine W.seq (W.region ?_)
 refine RW.v ?_
 refine RW.cl ?_
 refine ((long_wc (h1.le le0) H).mono ?_)
 clear H
 rintro _ _ ⟨lb1, rfl, hlb1, H⟩
 refine RW.v ?_
 refine RW.both _ _ rfl rfl rfl (fun hc2 => ?_) (fun hc2 => ?_)
 ·have hc2b := hc2
  refine RW.skip (by rfl) (by kernel_rfl) ?_
  refine RW.skip (by rfl) (by kernel_rfl) ?_
  refine RW.skip (by rfl) (by kernel_rfl) ?_
  refine RW.skip (by rfl) (by kernel_rfl) ?_
  refine RW.v ?_
  refine RW.nil ?_
  refine W.c1 ?_
  refine W.seq (W.region ?_)
  iterate 2 refine RW.v ?_
  refine RW.nil ?_
  refine W.ret ?_
  refine seqQ_ret ?_
  refine endG (by rfl) (by exact resL_tmp rfl) ?_
  exact rfl
 ·have hc2b := hc2
  obtain ⟨hl, hsz⟩ := hlb1 hc2b
  have hsm : ∀ x ∈ l, x.s.length ≤ 1000 := prts_all fun j hj => by have := hsz j hj; omega
  refine RW.val (by rfl) (by kernel_rfl) rfl (by kernel_rfl) ?_
  refine RW.val (by rfl) (by kernel_rfl) rfl (by kernel_rfl) ?_
  refine RW.val (by rfl) (by kernel_rfl) rfl (by kernel_rfl) ?_
  refine RW.cl (hw := by rfl) ?_
  refine ((vast_wc (by omega) (h1.le le0) H).mono ?_)
  clear H
  rintro _ _ ⟨vb3, rfl, H⟩
  refine RW.v ?_
  refine RW.nil ?_
  refine W.rg [(0, v1), (1, .int .i64 fr), (2, .int .i64 to_), (3, .int .i64 wd), (4, .int .i64 tab), (5, .int .i64 most), (13, .bool true), (30, .bool vb3)] fun TA => ?_
  refine W.cond rfl (fun hc4 => ?_) (fun hc4 => ?_)
  ·have hc4b := hc4
   refine W.seq (W.region ?_)
   iterate 2 refine RW.v ?_
   refine RW.nil ?_
   refine W.ret ?_
   refine seqQ_ret ?_
   refine endG (by rfl) (by exact resL_tmp rfl) ?_
   exact rfl
  ·have hc4b := hc4
   refine W.skip ?_
   refine W.seq (W.region ?_)
   iterate 5 refine RW.v ?_
   refine RW.cl ?_
   refine ((Rows_fz (hU.le le0) h16 (h1.le le0) (by omega) hsm H).mono ?_)
   clear H
   rintro _ _ ⟨F, u1, ds1, qs1, le, rfl, hv1, al1, H⟩
   replace le0 := fun b y h => le b y (le0 b y h)
   obtain ⟨A1, hA1⟩ : ∃ A1, A1 = rowsA l fr to_ wd tab true 10000 := ⟨_, rfl⟩
   rw [← hA1] at hv1 al1
   have hn1 : A1.length ≤ 10000 := hA1 ▸ rowsA_len
   have hw1 : ∀ r ∈ A1, r.C.length ≤ 1000 ∧ r.P.length ≤ 1000 := hA1 ▸ rowsA_wid
   obtain ⟨E1, hE1⟩ : ∃ E1, E1 = errM l fr to_ wd tab 10000 := ⟨_, rfl⟩
   rw [← hE1]
   iterate 5 refine RW.v ?_
   refine RW.nil ?_
   refine W.rg [(0, v1), (1, .int .i64 fr), (2, .int .i64 to_), (3, .int .i64 wd), (4, .int .i64 tab), (5, .int .i64 most), (13, .bool true), (14, u1), (15, .int .i64 E1)] fun TA => ?_
   refine W.seq (W.region ?_)
   iterate 5 refine RW.v ?_
   refine RW.cl ?_
   refine ((Rows_fz (hU.le le0) h16 (h1.le le0) (by omega) hsm H).mono ?_)
   clear H
   rintro _ _ ⟨F, u2, ds2, qs2, le, rfl, hv2, al2, H⟩
   replace le0 := fun b y h => le b y (le0 b y h)
   replace hv1 := hv1.le le
   replace al1 := al1.le le
   obtain ⟨A2, hA2⟩ : ∃ A2, A2 = rowsA l fr to_ wd tab false 10000 := ⟨_, rfl⟩
   rw [← hA2] at hv2 al2
   have hn2 : A2.length ≤ 10000 := hA2 ▸ rowsA_len
   have hw2 : ∀ r ∈ A2, r.C.length ≤ 1000 ∧ r.P.length ≤ 1000 := hA2 ▸ rowsA_wid
   rw [← hE1]
   iterate 5 refine RW.v ?_
   refine RW.nil ?_
   refine W.rg [(0, v1), (1, .int .i64 fr), (2, .int .i64 to_), (3, .int .i64 wd), (4, .int .i64 tab), (5, .int .i64 most), (13, .bool true), (14, u1), (15, .int .i64 E1), (16, u2), (17, .int .i64 E1)] fun TA => ?_
   refine W.seq (W.region ?_)
   iterate 6 refine RW.v ?_
   refine RW.cl ?_
   refine ((Rows_fz (hU.le le0) h16 (h1.le le0) (by omega) hsm H).mono ?_)
   clear H
   rintro _ _ ⟨F, u3, ds3, qs3, le, rfl, hv3, al3, H⟩
   replace le0 := fun b y h => le b y (le0 b y h)
   replace hv1 := hv1.le le
   replace al1 := al1.le le
   replace hv2 := hv2.le le
   replace al2 := al2.le le
   obtain ⟨A3, hA3⟩ : ∃ A3, A3 = rowsA l fr to_ wd tab true most := ⟨_, rfl⟩
   rw [← hA3] at hv3 al3
   have hn3 : A3.length ≤ 10000 := hA3 ▸ rowsA_len
   have hw3 : ∀ r ∈ A3, r.C.length ≤ 1000 ∧ r.P.length ≤ 1000 := hA3 ▸ rowsA_wid
   obtain ⟨E3, hE3⟩ : ∃ E3, E3 = errM l fr to_ wd tab most := ⟨_, rfl⟩
   rw [← hE3]
   iterate 5 refine RW.v ?_
   refine RW.nil ?_
   refine W.rg [(5, .int .i64 most), (13, .bool true), (14, u1), (15, .int .i64 E1), (16, u2), (17, .int .i64 E1), (18, u3), (19, .int .i64 E3)] fun TA => ?_
   refine W.seq ?_
   refine W.seq (W.region ?_)
   iterate 2 refine RW.v ?_
   refine RW.valE (v' := .bool false) (by kernel_rfl) (by kernel_rfl) rfl (congrArg Value.bool (bne_eq_false_iff_eq.2 (by rfl))) (by kernel_rfl) ?_
   refine RW.nil ?_
   refine W.c0 ?_
   refine W.skip ?_
   refine W.seq ?_
   refine W.seq (W.region ?_)
   iterate 2 refine RW.v ?_
   refine RW.nil ?_
   refine W.rg [(5, .int .i64 most), (13, .bool true), (14, u1), (16, u2), (18, u3), (19, .int .i64 E3), (64, .bool (E1 != 0))] fun TA => ?_
   refine W.cond rfl (fun hc5 => ?_) (fun hc5 => ?_)
   ·have hc5b := hc5
    have hc5 := bne_iff_ne.1 hc5
    have z1 : A1.length = 0 := by rw [hA1, rowsA_err (hE1 ▸ hc5)]; rfl
    have z2 : A2.length = 0 := by rw [hA2, rowsA_err (hE1 ▸ hc5)]; rfl
    refine W.seq (W.region ?_)
    iterate 2 refine RW.v ?_
    refine RW.val (by rfl) (by kernel_rfl) rfl (by kernel_rfl) ?_
    refine RW.len (by rfl) (by kernel_rfl) rfl rfl rfl rfl (hv1.slf.len (e := 39) (by kernel_rfl)) (by kernel_rfl) ?_
    refine RW.val (by rfl) (by kernel_rfl) rfl (by kernel_rfl) ?_
    refine RW.len (by rfl) (by kernel_rfl) rfl rfl rfl rfl (hv2.slf.len (e := 39) (by kernel_rfl)) (by kernel_rfl) ?_
    refine RW.valE (v' := .int .i64 ((A1.length : Int) + (A2.length : Int))) (by rfl) (by kernel_rfl) rfl (congrArg (Value.int .i64) (wrap_in (by omega) (by omega))) (by kernel_rfl) ?_
    refine RW.valE (v' := .bool true) (by rfl) (by kernel_rfl) rfl (congrArg Value.bool (beq_iff_eq.2 (by omega))) (by kernel_rfl) ?_
    iterate 2 refine RW.v ?_
    refine RW.nil ?_
    refine W.ret ?_
    refine seqQ_ret ?_
    refine endG (by rfl) (by exact resL_tmp rfl) ?_
    exact rfl
   ·have hc5b := hc5
    have hc5 := (bne_eq_false_iff_eq.1) hc5
    have e1 : errM l fr to_ wd tab 10000 = 0 := hE1 ▸ hc5
    refine W.skip ?_
    refine W.seq ?_
    refine W.seq (W.region ?_)
    iterate 3 refine RW.v ?_
    refine RW.both _ _ rfl rfl rfl (fun hc6 => ?_) (fun hc6 => ?_)
    ·have hc6b := hc6
     have hc6 := eq_of_beq hc6
     have hmb := errM_most e1 (most := most)
     rw [← hE3] at hmb
     refine RW.val (by rfl) (by kernel_rfl) rfl (by kernel_rfl) ?_
     refine RW.valE (v' := .bool false) (by rfl) (by kernel_rfl) rfl (congrArg Value.bool (decide_eq_false (by omega))) (by kernel_rfl) ?_
     refine RW.v ?_
     refine RW.nil ?_
     refine W.c0 ?_
     refine W.skip ?_
     refine W.seq (W.region ?_)
     refine RW.v ?_
     refine RW.nil ?_
     refine W.rg [(5, .int .i64 most), (13, .bool true), (14, u1), (16, u2), (18, u3), (19, .int .i64 E3), (20, .bool false)] fun TA => ?_
     refine W.seq ?_
     refine W.seq (W.region ?_)
     refine RW.v ?_
     refine RW.nil ?_
     refine W.rg [(5, .int .i64 most), (13, .bool true), (14, u1), (16, u2), (18, u3), (19, .int .i64 E3), (20, .bool false), (21, .int .i64 0)] fun TA => ?_
     refine W.block ?_
     refine W.loop (fun mm ta σ => ∃ (i : Nat) (cb : Bool), (mm + i = A1.length) ∧ (cb = (A1.take i).any (·.co)) ∧ Lies G Abs.no F σ (([])) ∧ ta 5 = .int .i64 most ∧ ta 13 = .bool true ∧ ta 14 = u1 ∧ ta 16 = u2 ∧ ta 18 = u3 ∧ ta 19 = .int .i64 E3 ∧ ta 20 = .bool cb ∧ ta 21 = .int .i64 ((i : Nat) : Int)) A1.length ?_ ?_
     ·exact ⟨0, false, (by omega), rfl, H, rfl, rfl, rfl, rfl, rfl, rfl, rfl, rfl⟩
     clear H
     rintro mm ta _ ⟨i, cb, hm, hcb, H, e5, e13, e14, e16, e18, e19, e20, e21⟩
     refine W.rst [(5, .int .i64 most), (13, .bool true), (14, u1), (16, u2), (18, u3), (19, .int .i64 E3), (20, .bool cb), (21, .int .i64 ((i : Nat) : Int))] ⟨e5, e13, e14, e16, e18, e19, e20, e21, trivial⟩ fun TA => ?_
     clear e5 e13 e14 e16 e18 e19 e20 e21
     refine W.seq ?_
     refine W.seq (W.region ?_)
     iterate 2 refine RW.v ?_
     refine RW.len (by kernel_rfl) (by kernel_rfl) rfl rfl rfl rfl (hv1.slf.len (e := 39) (by kernel_rfl)) (by kernel_rfl) ?_
     refine RW.v ?_
     refine RW.nil ?_
     refine W.rg [(5, .int .i64 most), (13, .bool true), (14, u1), (16, u2), (18, u3), (19, .int .i64 E3), (20, .bool cb), (21, .int .i64 ((i : Nat) : Int)), (83, .bool (decide (((i : Nat) : Int) < (A1.length : Int))))] fun TA => ?_
     refine W.cond rfl (fun hc7 => ?_) (fun hc7 => ?_)
     ·have hc7b := hc7
      have hc7 := of_decide_eq_true hc7
      have hil : i < A1.length := by omega
      refine W.skip ?_
      refine W.seq ?_
      refine W.block ?_
      refine W.region ?_
      iterate 2 refine RW.v ?_
      refine RW.both _ _ rfl rfl rfl (fun hc8 => ?_) (fun hc8 => ?_)
      ·have hc8b := hc8
       refine RW.skip (by rfl) (by kernel_rfl) ?_
       refine RW.skip (by rfl) (by kernel_rfl) ?_
       refine RW.skip (by rfl) (by kernel_rfl) ?_
       refine RW.skip (by rfl) (by kernel_rfl) ?_
       refine RW.skip (by rfl) (by kernel_rfl) ?_
       iterate 2 refine RW.v ?_
       refine RW.nil ?_
       refine blkQ_normal ?_
       refine W.rg [(5, .int .i64 most), (13, .bool true), (14, u1), (16, u2), (18, u3), (19, .int .i64 E3), (20, .bool true), (21, .int .i64 ((i : Nat) : Int))] fun TA => ?_
       refine W.region ?_
       refine RW.v ?_
       refine RW.valE (v' := .int .i64 (((i : Nat) : Int) + 1)) (by kernel_rfl) (by kernel_rfl) rfl (congrArg (Value.int .i64) (wrap_in (by omega) (by omega))) (by kernel_rfl) ?_
       refine RW.v ?_
       refine RW.nil ?_
       exact ⟨rfl, mm - 1, by omega, i + 1, true, (by omega), (by rw [any_snoc (show i < A1.length by omega), ← hcb, hc8b]; rfl), H, rfl, rfl, rfl, rfl, rfl, rfl, rfl, rfl⟩
      ·have hc8b := hc8
       refine RW.val (by rfl) (by kernel_rfl) rfl (by kernel_rfl) ?_
       refine RW.val (by rfl) (by kernel_rfl) rfl (by kernel_rfl) ?_
       refine RW.idxF hv1.slf (by rfl) (by kernel_rfl) rfl Tryd.underlying27 (by kernel_rfl) rfl rfl ⟨by omega, by omega⟩ (by kernel_rfl) ?_
       intro b9 q10 r11 hF12 hE13
       rw [rowsV_ati (l := A1) (j := i) al1.1 al1.2.1 (by omega)] at hE13
       refine RW.val (by rfl) (by kernel_rfl) rfl (by kernel_rfl) ?_
       refine RW.loads 1 (by rfl) (by kernel_rfl) rfl rfl (H.old _ _ hF12) (sub_take hE13 4 1 (by decide)) rfl (by kernel_rfl) ?_
       iterate 2 refine RW.v ?_
       refine RW.nil ?_
       refine blkQ_normal ?_
       refine W.rg [(5, .int .i64 most), (13, .bool true), (14, u1), (16, u2), (18, u3), (19, .int .i64 E3), (20, .bool ((A1.getD i default).co)), (21, .int .i64 ((i : Nat) : Int))] fun TA => ?_
       refine W.region ?_
       refine RW.v ?_
       refine RW.valE (v' := .int .i64 (((i : Nat) : Int) + 1)) (by kernel_rfl) (by kernel_rfl) rfl (congrArg (Value.int .i64) (wrap_in (by omega) (by omega))) (by kernel_rfl) ?_
       refine RW.v ?_
       refine RW.nil ?_
       exact ⟨rfl, mm - 1, by omega, i + 1, (A1.getD i default).co, (by omega), (by rw [any_snoc (show i < A1.length by omega), ← hcb, hc8b]; rfl), H, rfl, rfl, rfl, rfl, rfl, rfl, rfl, rfl⟩
     ·have hc7b := hc7
      have hc7 := of_decide_eq_false hc7
      refine W.exit _ ?_
      refine seqQ_exit ?_
      refine rndQ_exit ?_
      refine blkQ_here ?_
      refine W.seq ?_
      refine W.seq (W.region ?_)
      iterate 3 refine RW.v ?_
      refine RW.both _ _ rfl rfl rfl (fun hc14 => ?_) (fun hc14 => ?_)
      ·have hc14b := hc14
       refine RW.val (by rfl) (by kernel_rfl) rfl (by kernel_rfl) ?_
       refine RW.val (by rfl) (by kernel_rfl) rfl (by kernel_rfl) ?_
       have hco : A1.any (·.co) = false := by rw [List.take_of_length_le (by omega)] at hcb; rw [← hcb]; simpa using hc14b
       have e2 : A2 = A1 := by rw [hA1] at hco; rw [hA2, hA1]; exact (rowsA_alike hco).symm
       have hv2' := hv2
       have al2' := al2
       rw [e2] at hv2' al2'
       refine RW.cl (hw := by rfl) ?_
       refine ((same_rows hv1.slf al1 hv2'.slf al2' (by omega) (fun r hr => ⟨by have := (hw1 r hr).1; omega, by have := (hw1 r hr).2; omega⟩) H).mono ?_)
       clear H
       rintro _ _ ⟨rfl, H⟩
       refine RW.val (by rfl) (by kernel_rfl) rfl (by kernel_rfl) ?_
       iterate 2 refine RW.v ?_
       refine RW.val (by rfl) (by kernel_rfl) rfl (by kernel_rfl) ?_
       refine RW.valE (v' := .bool true) (by rfl) (by kernel_rfl) rfl (congrArg Value.bool (beq_iff_eq.2 (by omega))) (by kernel_rfl) ?_
       refine RW.val (by rfl) (by kernel_rfl) rfl (by kernel_rfl) ?_
       refine RW.val (by rfl) (by kernel_rfl) rfl (by kernel_rfl) ?_
       refine RW.val (by rfl) (by kernel_rfl) rfl (by kernel_rfl) ?_
       refine RW.val (by rfl) (by kernel_rfl) rfl (by kernel_rfl) ?_
       refine RW.len (by rfl) (by kernel_rfl) rfl rfl rfl rfl (hv1.slf.len (e := 39) (by kernel_rfl)) (by kernel_rfl) ?_
       refine RW.val (by rfl) (by kernel_rfl) rfl (by kernel_rfl) ?_
       refine RW.vop (v := .int .i64 (min (A1.length : Int) most)) (by rfl) (by kernel_rfl) (vop_min rfl rfl rfl rfl rfl) (by kernel_rfl) ?_
       obtain ⟨k, hk⟩ : ∃ k : Nat, k = min A1.length most.toNat := ⟨_, rfl⟩
       have hkm : min ((A1.length : Nat) : Int) most = ((k : Nat) : Int) := by omega
       obtain ⟨sv, hsv, hkc⟩ := slk_cut (P := Tryd.prog) (t := 27) (e := 39) (i := k) hv1 (by kernel_rfl) (by kernel_rfl) (by omega)
       rw [← hkm] at hsv
       refine RW.vop (v := sv) (by rfl) (by kernel_rfl) (vop_slice rfl hsv) (by kernel_rfl) ?_
       have e3 : A3 = A1.take k := by rw [hA3, hA1, hk, hA1, take_min_len]; exact rowsA_fewer (by omega) (by omega) e1
       have hv4 : SlF F 5 sv A3.length (rowsV (ds1.take k) (qs1.take k) A3) := by rw [e3, List.length_take, Nat.min_eq_left (by omega), ← rowsV_take al1.1 al1.2.1]; exact hkc.slf
       have al4 : AllRow F (ds1.take k) (qs1.take k) A3 := e3 ▸ al1.take k
       refine RW.cl (hw := by rfl) ?_
       refine ((same_rows hv3.slf al3 hv4 al4 (by omega) (fun r hr => ⟨by have := (hw3 r hr).1; omega, by have := (hw3 r hr).2; omega⟩) H).mono ?_)
       clear H
       rintro _ _ ⟨rfl, H⟩
       refine RW.val (by rfl) (by kernel_rfl) rfl (by kernel_rfl) ?_
       refine RW.val (by rfl) (by kernel_rfl) rfl (by kernel_rfl) ?_
       refine RW.v ?_
       refine RW.nil ?_
       refine W.c0 ?_
       refine W.skip ?_
       refine W.seq (W.region ?_)
       iterate 2 refine RW.v ?_
       refine RW.val (by rfl) (by kernel_rfl) rfl (by kernel_rfl) ?_
       refine RW.valE (v' := .bool true) (by rfl) (by kernel_rfl) rfl (congrArg Value.bool (beq_iff_eq.2 (by omega))) (by kernel_rfl) ?_
       refine RW.val (by rfl) (by kernel_rfl) rfl (by kernel_rfl) ?_
       refine RW.valE (v' := .bool true) (by rfl) (by kernel_rfl) rfl (congrArg Value.bool (decide_eq_true (by omega))) (by kernel_rfl) ?_
       refine RW.val (by rfl) (by kernel_rfl) rfl (by kernel_rfl) ?_
       refine RW.val (by rfl) (by kernel_rfl) rfl (by kernel_rfl) ?_
       refine RW.valE (v' := .bool true) (by rfl) (by kernel_rfl) rfl (congrArg Value.bool (decide_eq_true (by omega))) (by kernel_rfl) ?_
       refine RW.val (by rfl) (by kernel_rfl) rfl (by kernel_rfl) ?_
       refine RW.val (by rfl) (by kernel_rfl) rfl (by kernel_rfl) ?_
       iterate 2 refine RW.v ?_
       refine RW.nil ?_
       refine W.ret ?_
       refine endG (by rfl) (by exact resL_tmp rfl) ?_
       exact rfl
      ·have hc14b := hc14
       refine RW.skip (by rfl) (by kernel_rfl) ?_
       refine RW.skip (by rfl) (by kernel_rfl) ?_
       refine RW.skip (by rfl) (by kernel_rfl) ?_
       refine RW.skip (by rfl) (by kernel_rfl) ?_
       iterate 2 refine RW.v ?_
       refine RW.val (by rfl) (by kernel_rfl) rfl (by kernel_rfl) ?_
       refine RW.valE (v' := .bool true) (by rfl) (by kernel_rfl) rfl (congrArg Value.bool (beq_iff_eq.2 (by omega))) (by kernel_rfl) ?_
       refine RW.val (by rfl) (by kernel_rfl) rfl (by kernel_rfl) ?_
       refine RW.val (by rfl) (by kernel_rfl) rfl (by kernel_rfl) ?_
       refine RW.val (by rfl) (by kernel_rfl) rfl (by kernel_rfl) ?_
       refine RW.val (by rfl) (by kernel_rfl) rfl (by kernel_rfl) ?_
       refine RW.len (by rfl) (by kernel_rfl) rfl rfl rfl rfl (hv1.slf.len (e := 39) (by kernel_rfl)) (by kernel_rfl) ?_
       refine RW.val (by rfl) (by kernel_rfl) rfl (by kernel_rfl) ?_
       refine RW.vop (v := .int .i64 (min (A1.length : Int) most)) (by rfl) (by kernel_rfl) (vop_min rfl rfl rfl rfl rfl) (by kernel_rfl) ?_
       obtain ⟨k, hk⟩ : ∃ k : Nat, k = min A1.length most.toNat := ⟨_, rfl⟩
       have hkm : min ((A1.length : Nat) : Int) most = ((k : Nat) : Int) := by omega
       obtain ⟨sv, hsv, hkc⟩ := slk_cut (P := Tryd.prog) (t := 27) (e := 39) (i := k) hv1 (by kernel_rfl) (by kernel_rfl) (by omega)
       rw [← hkm] at hsv
       refine RW.vop (v := sv) (by rfl) (by kernel_rfl) (vop_slice rfl hsv) (by kernel_rfl) ?_
       have e3 : A3 = A1.take k := by rw [hA3, hA1, hk, hA1, take_min_len]; exact rowsA_fewer (by omega) (by omega) e1
       have hv4 : SlF F 5 sv A3.length (rowsV (ds1.take k) (qs1.take k) A3) := by rw [e3, List.length_take, Nat.min_eq_left (by omega), ← rowsV_take al1.1 al1.2.1]; exact hkc.slf
       have al4 : AllRow F (ds1.take k) (qs1.take k) A3 := e3 ▸ al1.take k
       refine RW.cl (hw := by rfl) ?_
       refine ((same_rows hv3.slf al3 hv4 al4 (by omega) (fun r hr => ⟨by have := (hw3 r hr).1; omega, by have := (hw3 r hr).2; omega⟩) H).mono ?_)
       clear H
       rintro _ _ ⟨rfl, H⟩
       refine RW.val (by rfl) (by kernel_rfl) rfl (by kernel_rfl) ?_
       refine RW.val (by rfl) (by kernel_rfl) rfl (by kernel_rfl) ?_
       refine RW.v ?_
       refine RW.nil ?_
       refine W.c0 ?_
       refine W.skip ?_
       refine W.seq (W.region ?_)
       iterate 2 refine RW.v ?_
       refine RW.val (by rfl) (by kernel_rfl) rfl (by kernel_rfl) ?_
       refine RW.valE (v' := .bool true) (by rfl) (by kernel_rfl) rfl (congrArg Value.bool (beq_iff_eq.2 (by omega))) (by kernel_rfl) ?_
       refine RW.val (by rfl) (by kernel_rfl) rfl (by kernel_rfl) ?_
       refine RW.valE (v' := .bool true) (by rfl) (by kernel_rfl) rfl (congrArg Value.bool (decide_eq_true (by omega))) (by kernel_rfl) ?_
       refine RW.val (by rfl) (by kernel_rfl) rfl (by kernel_rfl) ?_
       refine RW.val (by rfl) (by kernel_rfl) rfl (by kernel_rfl) ?_
       refine RW.valE (v' := .bool true) (by rfl) (by kernel_rfl) rfl (congrArg Value.bool (decide_eq_true (by omega))) (by kernel_rfl) ?_
       refine RW.val (by rfl) (by kernel_rfl) rfl (by kernel_rfl) ?_
       refine RW.val (by rfl) (by kernel_rfl) rfl (by kernel_rfl) ?_
       iterate 2 refine RW.v ?_
       refine RW.nil ?_
       refine W.ret ?_
       refine endG (by rfl) (by exact resL_tmp rfl) ?_
       exact rfl
    ·have hc6b := hc6
     have hc6 := ne_of_beq_false hc6
     have hmb := errM_most e1 (most := most)
     rw [← hE3] at hmb
     refine RW.skip (by rfl) (by kernel_rfl) ?_
     refine RW.skip (by rfl) (by kernel_rfl) ?_
     refine RW.v ?_
     refine RW.nil ?_
     refine W.c0 ?_
     refine W.skip ?_
     refine W.seq (W.region ?_)
     refine RW.v ?_
     refine RW.nil ?_
     refine W.rg [(5, .int .i64 most), (13, .bool true), (14, u1), (16, u2), (18, u3), (19, .int .i64 E3), (20, .bool false)] fun TA => ?_
     refine W.seq ?_
     refine W.seq (W.region ?_)
     refine RW.v ?_
     refine RW.nil ?_
     refine W.rg [(5, .int .i64 most), (13, .bool true), (14, u1), (16, u2), (18, u3), (19, .int .i64 E3), (20, .bool false), (21, .int .i64 0)] fun TA => ?_
     refine W.block ?_
     refine W.loop (fun mm ta σ => ∃ (i : Nat) (cb : Bool), (mm + i = A1.length) ∧ (cb = (A1.take i).any (·.co)) ∧ Lies G Abs.no F σ (([])) ∧ ta 5 = .int .i64 most ∧ ta 13 = .bool true ∧ ta 14 = u1 ∧ ta 16 = u2 ∧ ta 18 = u3 ∧ ta 19 = .int .i64 E3 ∧ ta 20 = .bool cb ∧ ta 21 = .int .i64 ((i : Nat) : Int)) A1.length ?_ ?_
     ·exact ⟨0, false, (by omega), rfl, H, rfl, rfl, rfl, rfl, rfl, rfl, rfl, rfl⟩
     clear H
     rintro mm ta _ ⟨i, cb, hm, hcb, H, e5, e13, e14, e16, e18, e19, e20, e21⟩
     refine W.rst [(5, .int .i64 most), (13, .bool true), (14, u1), (16, u2), (18, u3), (19, .int .i64 E3), (20, .bool cb), (21, .int .i64 ((i : Nat) : Int))] ⟨e5, e13, e14, e16, e18, e19, e20, e21, trivial⟩ fun TA => ?_
     clear e5 e13 e14 e16 e18 e19 e20 e21
     refine W.seq ?_
     refine W.seq (W.region ?_)
     iterate 2 refine RW.v ?_
     refine RW.len (by kernel_rfl) (by kernel_rfl) rfl rfl rfl rfl (hv1.slf.len (e := 39) (by kernel_rfl)) (by kernel_rfl) ?_
     refine RW.v ?_
     refine RW.nil ?_
     refine W.rg [(5, .int .i64 most), (13, .bool true), (14, u1), (16, u2), (18, u3), (19, .int .i64 E3), (20, .bool cb), (21, .int .i64 ((i : Nat) : Int)), (83, .bool (decide (((i : Nat) : Int) < (A1.length : Int))))] fun TA => ?_
     refine W.cond rfl (fun hc15 => ?_) (fun hc15 => ?_)
     ·have hc15b := hc15
      have hc15 := of_decide_eq_true hc15
      have hil : i < A1.length := by omega
      refine W.skip ?_
      refine W.seq ?_
      refine W.block ?_
      refine W.region ?_
      iterate 2 refine RW.v ?_
      refine RW.both _ _ rfl rfl rfl (fun hc16 => ?_) (fun hc16 => ?_)
      ·have hc16b := hc16
       refine RW.skip (by rfl) (by kernel_rfl) ?_
       refine RW.skip (by rfl) (by kernel_rfl) ?_
       refine RW.skip (by rfl) (by kernel_rfl) ?_
       refine RW.skip (by rfl) (by kernel_rfl) ?_
       refine RW.skip (by rfl) (by kernel_rfl) ?_
       iterate 2 refine RW.v ?_
       refine RW.nil ?_
       refine blkQ_normal ?_
       refine W.rg [(5, .int .i64 most), (13, .bool true), (14, u1), (16, u2), (18, u3), (19, .int .i64 E3), (20, .bool true), (21, .int .i64 ((i : Nat) : Int))] fun TA => ?_
       refine W.region ?_
       refine RW.v ?_
       refine RW.valE (v' := .int .i64 (((i : Nat) : Int) + 1)) (by kernel_rfl) (by kernel_rfl) rfl (congrArg (Value.int .i64) (wrap_in (by omega) (by omega))) (by kernel_rfl) ?_
       refine RW.v ?_
       refine RW.nil ?_
       exact ⟨rfl, mm - 1, by omega, i + 1, true, (by omega), (by rw [any_snoc (show i < A1.length by omega), ← hcb, hc16b]; rfl), H, rfl, rfl, rfl, rfl, rfl, rfl, rfl, rfl⟩
      ·have hc16b := hc16
       refine RW.val (by rfl) (by kernel_rfl) rfl (by kernel_rfl) ?_
       refine RW.val (by rfl) (by kernel_rfl) rfl (by kernel_rfl) ?_
       refine RW.idxF hv1.slf (by rfl) (by kernel_rfl) rfl Tryd.underlying27 (by kernel_rfl) rfl rfl ⟨by omega, by omega⟩ (by kernel_rfl) ?_
       intro b17 q18 r19 hF20 hE21
       rw [rowsV_ati (l := A1) (j := i) al1.1 al1.2.1 (by omega)] at hE21
       refine RW.val (by rfl) (by kernel_rfl) rfl (by kernel_rfl) ?_
       refine RW.loads 1 (by rfl) (by kernel_rfl) rfl rfl (H.old _ _ hF20) (sub_take hE21 4 1 (by decide)) rfl (by kernel_rfl) ?_
       iterate 2 refine RW.v ?_
       refine RW.nil ?_
       refine blkQ_normal ?_
       refine W.rg [(5, .int .i64 most), (13, .bool true), (14, u1), (16, u2), (18, u3), (19, .int .i64 E3), (20, .bool ((A1.getD i default).co)), (21, .int .i64 ((i : Nat) : Int))] fun TA => ?_
       refine W.region ?_
       refine RW.v ?_
       refine RW.valE (v' := .int .i64 (((i : Nat) : Int) + 1)) (by kernel_rfl) (by kernel_rfl) rfl (congrArg (Value.int .i64) (wrap_in (by omega) (by omega))) (by kernel_rfl) ?_
       refine RW.v ?_
       refine RW.nil ?_
       exact ⟨rfl, mm - 1, by omega, i + 1, (A1.getD i default).co, (by omega), (by rw [any_snoc (show i < A1.length by omega), ← hcb, hc16b]; rfl), H, rfl, rfl, rfl, rfl, rfl, rfl, rfl, rfl⟩
     ·have hc15b := hc15
      have hc15 := of_decide_eq_false hc15
      refine W.exit _ ?_
      refine seqQ_exit ?_
      refine rndQ_exit ?_
      refine blkQ_here ?_
      refine W.seq ?_
      refine W.seq (W.region ?_)
      iterate 3 refine RW.v ?_
      refine RW.both _ _ rfl rfl rfl (fun hc22 => ?_) (fun hc22 => ?_)
      ·have hc22b := hc22
       refine RW.val (by rfl) (by kernel_rfl) rfl (by kernel_rfl) ?_
       refine RW.val (by rfl) (by kernel_rfl) rfl (by kernel_rfl) ?_
       have hco : A1.any (·.co) = false := by rw [List.take_of_length_le (by omega)] at hcb; rw [← hcb]; simpa using hc22b
       have e2 : A2 = A1 := by rw [hA1] at hco; rw [hA2, hA1]; exact (rowsA_alike hco).symm
       have hv2' := hv2
       have al2' := al2
       rw [e2] at hv2' al2'
       refine RW.cl (hw := by rfl) ?_
       refine ((same_rows hv1.slf al1 hv2'.slf al2' (by omega) (fun r hr => ⟨by have := (hw1 r hr).1; omega, by have := (hw1 r hr).2; omega⟩) H).mono ?_)
       clear H
       rintro _ _ ⟨rfl, H⟩
       refine RW.val (by rfl) (by kernel_rfl) rfl (by kernel_rfl) ?_
       iterate 2 refine RW.v ?_
       refine RW.val (by rfl) (by kernel_rfl) rfl (by kernel_rfl) ?_
       refine RW.valE (v' := .bool false) (by rfl) (by kernel_rfl) rfl (congrArg Value.bool (beq_eq_false_iff_ne.2 (by omega))) (by kernel_rfl) ?_
       refine RW.val (by rfl) (by kernel_rfl) rfl (by kernel_rfl) ?_
       refine RW.skip (by rfl) (by kernel_rfl) ?_
       refine RW.skip (by rfl) (by kernel_rfl) ?_
       refine RW.skip (by rfl) (by kernel_rfl) ?_
       refine RW.skip (by rfl) (by kernel_rfl) ?_
       refine RW.skip (by rfl) (by kernel_rfl) ?_
       refine RW.skip (by rfl) (by kernel_rfl) ?_
       refine RW.skip (by rfl) (by kernel_rfl) ?_
       refine RW.skip (by rfl) (by kernel_rfl) ?_
       refine RW.skip (by rfl) (by kernel_rfl) ?_
       refine RW.val (by rfl) (by kernel_rfl) rfl (by kernel_rfl) ?_
       refine RW.v ?_
       refine RW.nil ?_
       refine W.c0 ?_
       refine W.skip ?_
       refine W.seq (W.region ?_)
       iterate 2 refine RW.v ?_
       refine RW.val (by rfl) (by kernel_rfl) rfl (by kernel_rfl) ?_
       refine RW.valE (v' := .bool false) (by rfl) (by kernel_rfl) rfl (congrArg Value.bool (beq_eq_false_iff_ne.2 (by omega))) (by kernel_rfl) ?_
       refine RW.val (by rfl) (by kernel_rfl) rfl (by kernel_rfl) ?_
       refine RW.val (by rfl) (by kernel_rfl) rfl (by kernel_rfl) ?_
       refine RW.val (by rfl) (by kernel_rfl) rfl (by kernel_rfl) ?_
       refine RW.both _ _ rfl rfl rfl (fun hc23 => ?_) (fun hc23 => ?_)
       ·have hc23b := hc23
        have hc23 := of_decide_eq_true hc23
        refine RW.val (by rfl) (by kernel_rfl) rfl (by kernel_rfl) ?_
        refine RW.valE (v' := .bool false) (by rfl) (by kernel_rfl) rfl (congrArg Value.bool (decide_eq_false (by omega))) (by kernel_rfl) ?_
        refine RW.val (by rfl) (by kernel_rfl) rfl (by kernel_rfl) ?_
        refine RW.val (by rfl) (by kernel_rfl) rfl (by kernel_rfl) ?_
        iterate 2 refine RW.v ?_
        refine RW.nil ?_
        refine W.ret ?_
        refine endG (by rfl) (by exact resL_tmp rfl) ?_
        exact rfl
       ·have hc23b := hc23
        have hc23 := of_decide_eq_false hc23
        refine RW.skip (by rfl) (by kernel_rfl) ?_
        refine RW.skip (by rfl) (by kernel_rfl) ?_
        refine RW.val (by rfl) (by kernel_rfl) rfl (by kernel_rfl) ?_
        refine RW.val (by rfl) (by kernel_rfl) rfl (by kernel_rfl) ?_
        iterate 2 refine RW.v ?_
        refine RW.nil ?_
        refine W.ret ?_
        refine endG (by rfl) (by exact resL_tmp rfl) ?_
        exact rfl
      ·have hc22b := hc22
       refine RW.skip (by rfl) (by kernel_rfl) ?_
       refine RW.skip (by rfl) (by kernel_rfl) ?_
       refine RW.skip (by rfl) (by kernel_rfl) ?_
       refine RW.skip (by rfl) (by kernel_rfl) ?_
       iterate 2 refine RW.v ?_
       refine RW.val (by rfl) (by kernel_rfl) rfl (by kernel_rfl) ?_
       refine RW.valE (v' := .bool false) (by rfl) (by kernel_rfl) rfl (congrArg Value.bool (beq_eq_false_iff_ne.2 (by omega))) (by kernel_rfl) ?_
       refine RW.val (by rfl) (by kernel_rfl) rfl (by kernel_rfl) ?_
       refine RW.skip (by rfl) (by kernel_rfl) ?_
       refine RW.skip (by rfl) (by kernel_rfl) ?_
       refine RW.skip (by rfl) (by kernel_rfl) ?_
       refine RW.skip (by rfl) (by kernel_rfl) ?_
       refine RW.skip (by rfl) (by kernel_rfl) ?_
       refine RW.skip (by rfl) (by kernel_rfl) ?_
       refine RW.skip (by rfl) (by kernel_rfl) ?_
       refine RW.skip (by rfl) (by kernel_rfl) ?_
       refine RW.skip (by rfl) (by kernel_rfl) ?_
       refine RW.val (by rfl) (by kernel_rfl) rfl (by kernel_rfl) ?_
       refine RW.v ?_
       refine RW.nil ?_
       refine W.c0 ?_
       refine W.skip ?_
       refine W.seq (W.region ?_)
       iterate 2 refine RW.v ?_
       refine RW.val (by rfl) (by kernel_rfl) rfl (by kernel_rfl) ?_
       refine RW.valE (v' := .bool false) (by rfl) (by kernel_rfl) rfl (congrArg Value.bool (beq_eq_false_iff_ne.2 (by omega))) (by kernel_rfl) ?_
       refine RW.val (by rfl) (by kernel_rfl) rfl (by kernel_rfl) ?_
       refine RW.val (by rfl) (by kernel_rfl) rfl (by kernel_rfl) ?_
       refine RW.val (by rfl) (by kernel_rfl) rfl (by kernel_rfl) ?_
       refine RW.both _ _ rfl rfl rfl (fun hc24 => ?_) (fun hc24 => ?_)
       ·have hc24b := hc24
        have hc24 := of_decide_eq_true hc24
        refine RW.val (by rfl) (by kernel_rfl) rfl (by kernel_rfl) ?_
        refine RW.valE (v' := .bool false) (by rfl) (by kernel_rfl) rfl (congrArg Value.bool (decide_eq_false (by omega))) (by kernel_rfl) ?_
        refine RW.val (by rfl) (by kernel_rfl) rfl (by kernel_rfl) ?_
        refine RW.val (by rfl) (by kernel_rfl) rfl (by kernel_rfl) ?_
        iterate 2 refine RW.v ?_
        refine RW.nil ?_
        refine W.ret ?_
        refine endG (by rfl) (by exact resL_tmp rfl) ?_
        exact rfl
       ·have hc24b := hc24
        have hc24 := of_decide_eq_false hc24
        refine RW.skip (by rfl) (by kernel_rfl) ?_
        refine RW.skip (by rfl) (by kernel_rfl) ?_
        refine RW.val (by rfl) (by kernel_rfl) rfl (by kernel_rfl) ?_
        refine RW.val (by rfl) (by kernel_rfl) rfl (by kernel_rfl) ?_
        iterate 2 refine RW.v ?_
        refine RW.nil ?_
        refine W.ret ?_
        refine endG (by rfl) (by exact resL_tmp rfl) ?_
        exact rfl
end Go.Proofs.YtmmapljeeccdnaaDoor
