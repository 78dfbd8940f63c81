/-
 The reference's Text; needs copied and held against one another. Conditions: none.
 CommandSpecs in the second memory. Conditions: none.
-/
import Derived.Test.YthemeeiedlbhkaaDoorNeo
import Derived.Test.YthemeeiedlbhkaaDoorS4
import Derived.Test.YthemeeiedlbhkaaDoorBase
import Derived.Test.YthemeeiedlbhkaaDoorNei
namespace Go.Proofs.YthemeeiedlbhkaaDoor
open Go.Lib
set_option maxRecDepth 100000
theorem ints_snoc (fs : List Int) (c : Int) : fs.map (Value.int .i64) ++ [.int .i64 c] = (fs ++ [c]).map (Value.int .i64) := by rw [List.map_append]; rfl
theorem flags_text {w e h : Bool} {fs : List Int} (hfs : fs = flagsC w e h) : textOf fs = flagsT w e h := by
 obtain ⟨f1, f2, _⟩ := flags_enc w e h
 rw [f1, hfs]
 exact (text_yes (allCh_iff.2 fun c hc => by have := List.all_eq_true.1 f2 c hc; rw [Bool.and_eq_true] at this; exact this.1)).1
theorem flagsT_len : ∀ w e h : Bool, (flagsT w e h).length ≤ 3 := by decide
set_option maxHeartbeats 8000000 in
theorem rtext1_wc {G : Nat} {A : Abs} {σ : Mem} {F : Nat → Option Blk2} {L : List Ent} {b : Nat} {c : Int} {t : TypeId} {g : Bool} (hc : c ∈ codeL) (H : Lies G A F σ (.at_ b (.row ⟨[.int .i64 c], t, g⟩) :: L)) : WC G Tryd.prog 45 #[.slice (some ⟨b, 0, none⟩) 1 1] σ fun v σ' => v = .string ⟨[c.toNat.toUInt8].toArray⟩ ∧ Lies G A F σ' L := by
 obtain ⟨F', le, hq, H⟩ := H.freeze 0 rfl
 have hS : SlF F' 1 (.slice (some ⟨b, 0, none⟩) 1 1) [c].length ([c].map (Value.int .i64)) := .some hq rfl rfl
 refine (rtext_wc hS (show 1 ≤ 65536 by decide) H).mono ?_
 rintro v σ' ⟨rfl, H⟩
 have e : textOf [c] = [c.toNat.toUInt8] := by
  rw [(text_yes (allCh_iff.2 fun x hx => by rw [List.mem_singleton.1 hx]; exact (codes_ok hc).1)).1, encA_cons, enc_small (codes_ok hc).2.2.2.1 (codes_ok hc).2.2.2.2]
  rfl
 rw [e]
 exact ⟨rfl, H.back le⟩
theorem ten_snoc {R : List Int} {k : Nat} {y : Int} (hk : k < R.length) (h : (10 : Int) ∉ R.take k) (hy : y = R.getD k 0) (hn : y ≠ 10) : (10 : Int) ∉ R.take (k + 1) := by
 rw [take_x hk hy]
 intro e
 rcases List.mem_append.1 e with e | e
 ·exact h e
 ·exact hn (List.mem_singleton.1 e).symm
theorem ten_none {R : List Int} {b : List UInt8} {k : Nat} (hR : R = runes b) (h : (10 : Int) ∉ R.take k) (hk : R.length ≤ k) : (runes b).contains 10 = false := by
 rw [List.take_of_length_le hk, hR] at h
 exact Bool.eq_false_iff.2 fun e => h (List.contains_iff_mem.1 e)
theorem ten_found {R : List Int} {b : List UInt8} {k : Nat} {y : Int} (hR : R = runes b) (hk : k < R.length) (hy : y = R.getD k 0) (h : y = 10) : (runes b).contains 10 = true := by
 refine List.contains_iff_mem.2 ?_
 rw [← hR, ← h, hy, List.getD_eq_getElem?_getD, List.getElem?_eq_getElem hk]
 exact List.getElem_mem _
set_option maxHeartbeats 8000000 in
theorem rtextM_wc {G : Nat} {A : Abs} {σ : Mem} {F : Nat → Option Blk2} {L : List Ent} {xv : Value} {xw xe xh : Bool} {l : List Need} (hx : SlF F 2 xv l.length (needC l)) (hll : l.length ≤ 300) (hpr : ∀ n ∈ l, n.2.length ≤ 1000) (H : Lies G A F σ L) : WC G Tryd.prog 10 #[.agg #[.bool xw, .bool xe, .bool xh, xv]] σ fun v σ' => v = .tuple #[.string ⟨(textM ⟨xw, xe, xh, l⟩).1.toArray⟩, .int .i64 (textM ⟨xw, xe, xh, l⟩).2] ∧ Lies G A F σ' L := by
 obtain ⟨F0, hF⟩ : ∃ F0, F0 = F := ⟨_, rfl⟩
 have le0 : Le F0 F := fun b y h => hF ▸ h
 rw [← hF] at hx ⊢
 refine WC.enter (fn := Tryd.f10) Tryd.func10 rfl ?_
 refine W.rg [(0, .agg #[.bool xw, .bool xe, .bool xh, xv])] fun TA => ?_
 refine W.seq (W.region ?_)
 refine RW.mkL H (x := .row ⟨[.bool xw, .bool xe, .bool xh, xv], 24, false⟩) (fm := fun b => .pointer (some ⟨b, 0, none⟩)) (by kernel_rfl) (by kernel_rfl) (by rcases slf_forms (hx.le le0) with rfl | ⟨_, rfl⟩ | ⟨_, _, _, _, _, rfl⟩ <;> kernel_rfl) (by kernel_rfl) ?_
 clear H; intro _ b1 _ H
 iterate 2 refine RW.v ?_
 refine RW.nil ?_
 refine W.rg [(1, .pointer (some ⟨b1, 0, none⟩))] fun TA => ?_
 refine W.seq (W.region ?_)
 refine RW.v ?_
 refine RW.nil ?_
 refine W.rg [(1, .pointer (some ⟨b1, 0, none⟩)), (4, .slice none 0 0)] fun TA => ?_
 replace H := H.nilSl 3 1
 obtain ⟨fs, hfs⟩ : ∃ fs : List Int, fs = [] := ⟨_, rfl⟩
 have hfl : fs.length ≤ 0 := by rw [hfs]; exact Nat.le_refl _
 have e0 : Ent.sl 3 1 (.slice none 0 0) 0 [] = .sl 3 1 (.slice none 0 0) fs.length (fs.map (Value.int .i64)) := by rw [hfs]; rfl
 rw [e0] at H
 refine W.join (fun ta σ => ∃ (v : Value) (fs : List Int), (fs = ([] : List Int) ++ (if xw = true then [42] else [])) ∧ (fs.length ≤ 1) ∧ Lies G A F σ (.sl 3 1 v fs.length (fs.map (Value.int .i64)) :: .at_ b1 (.row ⟨[.bool xw, .bool xe, .bool xh, xv], 24, false⟩) :: (L)) ∧ ta 1 = .pointer (some ⟨b1, 0, none⟩) ∧ ta 4 = v) ?_ ?_
 ·refine W.seq (W.region ?_)
  refine RW.v ?_
  refine RW.ld H 1 1 ?_
  refine RW.nil ?_
  refine W.rg [(1, .pointer (some ⟨b1, 0, none⟩)), (4, .slice none 0 0), (11, .bool xw)] fun TA => ?_
  refine W.cond rfl (fun hc2 => ?_) (fun hc2 => ?_)
  ·have hc2b := hc2
   refine W.region ?_
   refine RW.v ?_
   refine RW.mkL H (x := .row ⟨[.int .i64 42], 3, false⟩) (fm := fun b => .slice (some ⟨b, 0, none⟩) 1 1) (by kernel_rfl) (by kernel_rfl) (by kernel_rfl) (by kernel_rfl) ?_
   clear H; intro _ b3 _ H
   refine RW.appL H 1 0 (n := 1) (e2 := 3) (by kernel_rfl) (by kernel_rfl) rfl rfl rfl rfl rfl rfl rfl rfl (by kernel_rfl) (by kernel_rfl) (by kernel_rfl) (by decide) (by decide) rfl rfl (by omega) (by kernel_rfl) ?_
   clear H; intro _ v4 _ H
   dsimp only [setL, delL] at H
   refine RW.v ?_
   refine RW.nil ?_
   rw [ints_snoc, show fs.length + 1 = (fs ++ [42]).length by rw [List.length_append]; rfl] at H
   exact ⟨rfl, rfl, v4, (fs ++ [42]), (by rw [hfs, if_pos hc2b]), (by rw [List.length_append, List.length_singleton]; omega), H, rfl, rfl⟩
  ·have hc2b := hc2
   refine W.skip ?_
   exact ⟨rfl, rfl, .slice none 0 0, fs, (by rw [hfs, if_neg (show ¬ xw = true from by rw [hc2b]; exact Bool.noConfusion), List.append_nil]), (by omega), H, rfl, rfl⟩
 clear H
 rintro ta _ ⟨v, fs, hfs, hfl, H, e1, e4⟩
 refine W.rst [(1, .pointer (some ⟨b1, 0, none⟩)), (4, v)] ⟨e1, e4, trivial⟩ fun TA => ?_
 clear e1 e4
 refine W.join (fun ta σ => ∃ (v : Value) (fs : List Int), (fs = (([] : List Int) ++ (if xw = true then [42] else [])) ++ (if xe = true then [64] else [])) ∧ (fs.length ≤ 2) ∧ Lies G A F σ (.sl 3 1 v fs.length (fs.map (Value.int .i64)) :: .at_ b1 (.row ⟨[.bool xw, .bool xe, .bool xh, xv], 24, false⟩) :: (L)) ∧ ta 1 = .pointer (some ⟨b1, 0, none⟩) ∧ ta 4 = v) ?_ ?_
 ·refine W.seq (W.region ?_)
  refine RW.v ?_
  refine RW.ld H 1 1 ?_
  refine RW.nil ?_
  refine W.rg [(1, .pointer (some ⟨b1, 0, none⟩)), (4, v), (16, .bool xe)] fun TA => ?_
  refine W.cond rfl (fun hc5 => ?_) (fun hc5 => ?_)
  ·have hc5b := hc5
   refine W.region ?_
   refine RW.v ?_
   refine RW.mkL H (x := .row ⟨[.int .i64 64], 3, false⟩) (fm := fun b => .slice (some ⟨b, 0, none⟩) 1 1) (by kernel_rfl) (by kernel_rfl) (by kernel_rfl) (by kernel_rfl) ?_
   clear H; intro _ b6 _ H
   refine RW.appL H 1 0 (n := 1) (e2 := 3) (by kernel_rfl) (by kernel_rfl) rfl rfl rfl rfl rfl rfl rfl rfl (by kernel_rfl) (by kernel_rfl) (by kernel_rfl) (by decide) (by decide) rfl rfl (by omega) (by kernel_rfl) ?_
   clear H; intro _ v7 _ H
   dsimp only [setL, delL] at H
   refine RW.v ?_
   refine RW.nil ?_
   rw [ints_snoc, show fs.length + 1 = (fs ++ [64]).length by rw [List.length_append]; rfl] at H
   exact ⟨rfl, rfl, v7, (fs ++ [64]), (by rw [hfs, if_pos hc5b]), (by rw [List.length_append, List.length_singleton]; omega), H, rfl, rfl⟩
  ·have hc5b := hc5
   refine W.skip ?_
   exact ⟨rfl, rfl, v, fs, (by rw [hfs, if_neg (show ¬ xe = true from by rw [hc5b]; exact Bool.noConfusion), List.append_nil]), (by omega), H, rfl, rfl⟩
 clear H
 rintro ta _ ⟨v, fs, hfs, hfl, H, e1, e4⟩
 refine W.rst [(1, .pointer (some ⟨b1, 0, none⟩)), (4, v)] ⟨e1, e4, trivial⟩ fun TA => ?_
 clear e1 e4
 refine W.join (fun ta σ => ∃ (v : Value) (fs : List Int), (fs = ((([] : List Int) ++ (if xw = true then [42] else [])) ++ (if xe = true then [64] else [])) ++ (if xh = true then [94] else [])) ∧ (fs.length ≤ 3) ∧ Lies G A F σ (.sl 3 1 v fs.length (fs.map (Value.int .i64)) :: .at_ b1 (.row ⟨[.bool xw, .bool xe, .bool xh, xv], 24, false⟩) :: (L)) ∧ ta 1 = .pointer (some ⟨b1, 0, none⟩) ∧ ta 4 = v) ?_ ?_
 ·refine W.seq (W.region ?_)
  refine RW.v ?_
  refine RW.ld H 1 1 ?_
  refine RW.nil ?_
  refine W.rg [(1, .pointer (some ⟨b1, 0, none⟩)), (4, v), (21, .bool xh)] fun TA => ?_
  refine W.cond rfl (fun hc8 => ?_) (fun hc8 => ?_)
  ·have hc8b := hc8
   refine W.region ?_
   refine RW.v ?_
   refine RW.mkL H (x := .row ⟨[.int .i64 94], 3, false⟩) (fm := fun b => .slice (some ⟨b, 0, none⟩) 1 1) (by kernel_rfl) (by kernel_rfl) (by kernel_rfl) (by kernel_rfl) ?_
   clear H; intro _ b9 _ H
   refine RW.appL H 1 0 (n := 1) (e2 := 3) (by kernel_rfl) (by kernel_rfl) rfl rfl rfl rfl rfl rfl rfl rfl (by kernel_rfl) (by kernel_rfl) (by kernel_rfl) (by decide) (by decide) rfl rfl (by omega) (by kernel_rfl) ?_
   clear H; intro _ v10 _ H
   dsimp only [setL, delL] at H
   refine RW.v ?_
   refine RW.nil ?_
   rw [ints_snoc, show fs.length + 1 = (fs ++ [94]).length by rw [List.length_append]; rfl] at H
   exact ⟨rfl, rfl, v10, (fs ++ [94]), (by rw [hfs, if_pos hc8b]), (by rw [List.length_append, List.length_singleton]; omega), H, rfl, rfl⟩
  ·have hc8b := hc8
   refine W.skip ?_
   exact ⟨rfl, rfl, v, fs, (by rw [hfs, if_neg (show ¬ xh = true from by rw [hc8b]; exact Bool.noConfusion), List.append_nil]), (by omega), H, rfl, rfl⟩
 clear H
 rintro ta _ ⟨v, fs, hfs, hfl, H, e1, e4⟩
 refine W.rst [(1, .pointer (some ⟨b1, 0, none⟩)), (4, v)] ⟨e1, e4, trivial⟩ fun TA => ?_
 clear e1 e4
 refine W.seq (W.region ?_)
 refine RW.v ?_
 obtain ⟨F, le, hS, H⟩ := H.freezeSl 0 rfl
 dsimp only [setL, delL] at H
 replace le0 := fun b y h => le b y (le0 b y h)
 clear le
 refine RW.cl ?_
 refine ((rtext_wc (xs := fs) hS (by omega) H).mono ?_)
 clear H
 rintro _ _ ⟨rfl, H⟩
 rw [flags_text (hfs.trans rfl)]
 clear hS
 refine RW.v ?_
 refine RW.nil ?_
 refine W.rg [(1, .pointer (some ⟨b1, 0, none⟩)), (5, .string ⟨(flagsT xw xe xh).toArray⟩)] fun TA => ?_
 refine W.seq ?_
 refine W.seq (W.region ?_)
 refine RW.v ?_
 refine RW.nil ?_
 refine W.rg [(1, .pointer (some ⟨b1, 0, none⟩)), (5, .string ⟨(flagsT xw xe xh).toArray⟩), (6, .int .i64 0)] fun TA => ?_
 refine W.block ?_
 refine W.loop (fun mm ta σ => ∃ (i : Nat) (bs : List UInt8) (F : Nat → Option Blk2), (mm + i = l.length) ∧ (Le F0 F) ∧ ((l.take i).all needB = true) ∧ (bs = flagsT xw xe xh ++ joinN (l.take i)) ∧ (bs.length ≤ 3 + i * 1010) ∧ Lies G A F σ (.at_ b1 (.row ⟨[.bool xw, .bool xe, .bool xh, xv], 24, false⟩) :: (L)) ∧ ta 1 = .pointer (some ⟨b1, 0, none⟩) ∧ ta 5 = .string ⟨bs.toArray⟩ ∧ ta 6 = .int .i64 ((i : Nat) : Int)) l.length ?_ ?_
 ·exact ⟨0, (flagsT xw xe xh), F, (by omega), le0, rfl, (List.append_nil _).symm, (by have := flagsT_len xw xe xh; omega), H, rfl, rfl, rfl⟩
 clear H
 rintro mm ta _ ⟨i, bs, F, hm, le0, hall, hbs, hbl, H, e1, e5, e6⟩
 refine W.rst [(1, .pointer (some ⟨b1, 0, none⟩)), (5, .string ⟨bs.toArray⟩), (6, .int .i64 ((i : Nat) : Int))] ⟨e1, e5, e6, trivial⟩ fun TA => ?_
 clear e1 e5 e6
 refine W.seq ?_
 refine W.seq (W.region ?_)
 iterate 2 refine RW.v ?_
 refine RW.ld H 0 1 ?_
 refine RW.len (by kernel_rfl) (by kernel_rfl) rfl rfl rfl rfl ((hx.le le0).len (e := 29) (by kernel_rfl)) (by kernel_rfl) ?_
 refine RW.v ?_
 refine RW.nil ?_
 refine W.rg [(1, .pointer (some ⟨b1, 0, none⟩)), (5, .string ⟨bs.toArray⟩), (6, .int .i64 ((i : Nat) : Int)), (31, .bool (decide (((i : Nat) : Int) < (l.length : Int))))] fun TA => ?_
 refine W.cond rfl (fun hc11 => ?_) (fun hc11 => ?_)
 ·have hc11b := hc11
  have hc11 := of_decide_eq_true hc11
  have hil : i < l.length := by omega
  refine W.skip ?_
  refine W.seq ?_
  refine W.block ?_
  refine W.seq (W.region ?_)
  refine RW.v ?_
  refine RW.ld H 0 1 ?_
  refine RW.v ?_
  refine RW.idxF (hx.le le0) (by kernel_rfl) (by kernel_rfl) rfl Tryd.underlying22 (by kernel_rfl) rfl rfl ⟨by omega, by omega⟩ (by kernel_rfl) ?_
  intro b12 q13 r14 hF15 hE16
  rw [need_at (l := l) (j := i) (i := ((i : Nat) : Int)) (by omega) (by omega)] at hE16
  refine RW.v ?_
  refine RW.loads 1 (by kernel_rfl) (by kernel_rfl) rfl rfl (H.old _ _ hF15) (sub_take hE16 1 1 (by decide)) rfl (by kernel_rfl) ?_
  have hpl := hpr _ (gD_mem hil)
  cases hvd : validD (gD l i).2 with
  | false =>
   refine RW.cl ?_
   refine ⟨_, _, (s_listno (by omega) hvd), ?_⟩
   iterate 5 refine RW.v ?_
   refine RW.nil ?_
   refine W.rg [(1, .pointer (some ⟨b1, 0, none⟩)), (5, .string ⟨bs.toArray⟩), (6, .int .i64 ((i : Nat) : Int)), (7, .slice none 0 0), (8, .int .i64 5)] fun TA => ?_
   refine W.seq ?_
   refine W.seq (W.region ?_)
   iterate 3 refine RW.v ?_
   iterate 8 refine RW.s ?_
   refine RW.v ?_
   refine RW.nil ?_
   refine W.c1 ?_
   refine W.seq (W.region ?_)
   iterate 2 refine RW.v ?_
   refine RW.nil ?_
   replace H := (H.del 0)
   dsimp only [setL, delL] at H
   refine W.ret ?_
   refine seqQ_ret ?_
   refine blkQ_ret ?_
   refine seqQ_ret ?_
   refine rndQ_ret ?_
   refine blkQ_ret ?_
   refine seqQ_ret ?_
   refine endG (by rfl) (by exact resL_tmp (by exact resL_tmp rfl)) ?_
   have et : textM ⟨xw, xe, xh, l⟩ = ([], 5) := text_noN hil (need_bad (.inr (.inl hvd)))
   rw [et]
   exact ⟨rfl, H.back le0⟩
  | true =>
   refine RW.cl ?_
   refine ((r_list (bs := (gD l i).2) hvd (by omega) H).mono ?_)
   clear H
   rintro _ _ ⟨F, lv, le, rfl, hlv, H⟩
   replace le0 := fun b y h => le b y (le0 b y h)
   clear le
   obtain ⟨R, hR⟩ : ∃ R, R = runes (gD l i).2 := ⟨_, rfl⟩
   have hRl : R.length ≤ 1000 := by rw [hR]; exact Nat.le_trans (runes_le _) hpl
   rw [← hR] at hlv
   iterate 5 refine RW.v ?_
   refine RW.nil ?_
   refine W.rg [(1, .pointer (some ⟨b1, 0, none⟩)), (5, .string ⟨bs.toArray⟩), (6, .int .i64 ((i : Nat) : Int)), (7, lv), (8, .int .i64 0)] fun TA => ?_
   refine W.seq ?_
   refine W.seq (W.region ?_)
   iterate 3 refine RW.v ?_
   refine RW.w ?_
   refine RW.ldL H 0 1 (by rfl) (by kernel_rfl) rfl rfl rfl rfl rfl (by kernel_rfl) ?_
   refine RW.w ?_
   refine RW.idxF (hx.le le0) (by rfl) (by kernel_rfl) rfl Tryd.underlying22 (by kernel_rfl) rfl rfl ⟨by omega, by omega⟩ (by kernel_rfl) ?_
   intro b17 q18 r19 hF20 hE21
   rw [need_at (l := l) (j := i) (i := ((i : Nat) : Int)) (by omega) (by omega)] at hE21
   refine RW.w ?_
   refine RW.loads 1 (by rfl) (by kernel_rfl) rfl rfl (H.old _ _ hF20) (sub_take hE21 0 1 (by decide)) rfl (by kernel_rfl) ?_
   refine RW.cl (hw := by rfl) ?_
   refine ((rcode_wc (c := (gD l i).1) H).mono ?_)
   clear H
   rintro _ _ ⟨rfl, H⟩
   refine RW.w ?_
   refine RW.v ?_
   refine RW.nil ?_
   refine W.rg [(1, .pointer (some ⟨b1, 0, none⟩)), (5, .string ⟨bs.toArray⟩), (6, .int .i64 ((i : Nat) : Int)), (7, lv), (55, .bool (!(decide ((gD l i).1 ∈ codeL))))] fun TA => ?_
   refine W.cond rfl (fun hc22 => ?_) (fun hc22 => ?_)
   ·have hc22b := hc22
    have hcd : (gD l i).1 ∉ codeL := by simpa using hc22b
    refine W.seq (W.region ?_)
    iterate 2 refine RW.v ?_
    refine RW.nil ?_
    replace H := (H.del 0)
    dsimp only [setL, delL] at H
    refine W.ret ?_
    refine seqQ_ret ?_
    refine blkQ_ret ?_
    refine seqQ_ret ?_
    refine rndQ_ret ?_
    refine blkQ_ret ?_
    refine seqQ_ret ?_
    refine endG (by rfl) (by exact resL_tmp (by exact resL_tmp rfl)) ?_
    have et : textM ⟨xw, xe, xh, l⟩ = ([], 5) := text_noN hil (need_bad (.inl hcd))
    rw [et]
    exact ⟨rfl, H.back le0⟩
   ·have hc22b := hc22
    have hcd : (gD l i).1 ∈ codeL := by simpa using hc22b
    refine W.skip ?_
    refine W.seq ?_
    refine W.seq (W.region ?_)
    refine RW.v ?_
    refine RW.nil ?_
    refine W.rg [(1, .pointer (some ⟨b1, 0, none⟩)), (5, .string ⟨bs.toArray⟩), (6, .int .i64 ((i : Nat) : Int)), (7, lv), (9, .int .i64 0)] fun TA => ?_
    refine W.block ?_
    refine W.loop (fun m2 ta σ => ∃ (k : Nat), (m2 + k = R.length) ∧ ((10 : Int) ∉ R.take k) ∧ Lies G A F σ (.at_ b1 (.row ⟨[.bool xw, .bool xe, .bool xh, xv], 24, false⟩) :: (L)) ∧ ta 1 = .pointer (some ⟨b1, 0, none⟩) ∧ ta 5 = .string ⟨bs.toArray⟩ ∧ ta 6 = .int .i64 ((i : Nat) : Int) ∧ ta 7 = lv ∧ ta 9 = .int .i64 ((k : Nat) : Int)) R.length ?_ ?_
    ·exact ⟨0, (by omega), (by rw [List.take_zero]; exact List.not_mem_nil), H, rfl, rfl, rfl, rfl, rfl⟩
    clear H
    rintro m2 ta _ ⟨k, hm2, hno, H, e1, e5, e6, e7, e9⟩
    refine W.rst [(1, .pointer (some ⟨b1, 0, none⟩)), (5, .string ⟨bs.toArray⟩), (6, .int .i64 ((i : Nat) : Int)), (7, lv), (9, .int .i64 ((k : Nat) : Int))] ⟨e1, e5, e6, e7, e9, trivial⟩ fun TA => ?_
    clear e1 e5 e6 e7 e9
    obtain ⟨y, hy⟩ : ∃ y, y = R.getD k 0 := ⟨_, rfl⟩
    refine W.seq ?_
    refine W.seq (W.region ?_)
    iterate 2 refine RW.v ?_
    refine RW.len (by kernel_rfl) (by kernel_rfl) rfl rfl rfl rfl (hlv.slf.len (e := 3) (by kernel_rfl)) (by kernel_rfl) ?_
    refine RW.v ?_
    refine RW.nil ?_
    refine W.rg [(1, .pointer (some ⟨b1, 0, none⟩)), (5, .string ⟨bs.toArray⟩), (6, .int .i64 ((i : Nat) : Int)), (7, lv), (9, .int .i64 ((k : Nat) : Int)), (59, .bool (decide (((k : Nat) : Int) < (R.length : Int))))] fun TA => ?_
    refine W.cond rfl (fun hc23 => ?_) (fun hc23 => ?_)
    ·have hc23b := hc23
     have hc23 := of_decide_eq_true hc23
     have hkr : k < R.length := by omega
     refine W.skip ?_
     refine W.seq ?_
     refine W.block ?_
     refine W.seq (W.region ?_)
     iterate 2 refine RW.v ?_
     refine RW.idxF hlv.slf (by kernel_rfl) (by kernel_rfl) rfl Tryd.underlying48 (by kernel_rfl) rfl rfl ⟨by omega, by omega⟩ (by kernel_rfl) ?_
     intro b24 q25 r26 hF27 hE28
     rw [intz_x (l := R) (j := k) (i := ((k : Nat) : Int)) hy (by omega) (by omega)] at hE28
     refine RW.loads 1 (by kernel_rfl) (by kernel_rfl) rfl rfl (H.old _ _ hF27) hE28 rfl (by kernel_rfl) ?_
     refine RW.v ?_
     refine RW.nil ?_
     refine W.rg [(1, .pointer (some ⟨b1, 0, none⟩)), (5, .string ⟨bs.toArray⟩), (6, .int .i64 ((i : Nat) : Int)), (7, lv), (9, .int .i64 ((k : Nat) : Int)), (66, .bool (y == 10))] fun TA => ?_
     refine W.cond rfl (fun hc29 => ?_) (fun hc29 => ?_)
     ·have hc29b := hc29
      have hc29 := eq_of_beq hc29
      refine W.seq (W.region ?_)
      iterate 2 refine RW.v ?_
      refine RW.nil ?_
      replace H := (H.del 0)
      dsimp only [setL, delL] at H
      refine W.ret ?_
      refine blkQ_ret ?_
      refine seqQ_ret ?_
      refine rndQ_ret ?_
      refine blkQ_ret ?_
      refine seqQ_ret ?_
      refine blkQ_ret ?_
      refine seqQ_ret ?_
      refine rndQ_ret ?_
      refine blkQ_ret ?_
      refine seqQ_ret ?_
      refine endG (by rfl) (by exact resL_tmp (by exact resL_tmp rfl)) ?_
      have et : textM ⟨xw, xe, xh, l⟩ = ([], 5) := text_noN hil (need_bad (.inr (.inr (ten_found hR hkr hy hc29))))
      rw [et]
      exact ⟨rfl, H.back le0⟩
     ·have hc29b := hc29
      have hc29 := ne_of_beq_false hc29
      refine W.skip ?_
      refine blkQ_normal ?_
      refine W.region ?_
      refine RW.v ?_
      refine RW.valE (v' := .int .i64 (((k + 1) : Nat) : Int)) (by kernel_rfl) (by kernel_rfl) rfl (congrArg (Value.int .i64) ((wrap_in (by omega) (by omega)).trans (by omega))) (by kernel_rfl) ?_
      refine RW.v ?_
      refine RW.nil ?_
      exact ⟨rfl, m2 - 1, by omega, k + 1, (by omega), (ten_snoc hkr hno hy hc29), H, rfl, rfl, rfl, rfl, rfl⟩
    ·have hc23b := hc23
     have hc23 := of_decide_eq_false hc23
     refine W.exit _ ?_
     refine seqQ_exit ?_
     refine rndQ_exit ?_
     have hgood : needB (gD l i) = true := need_good hcd hvd (ten_none hR hno (by omega))
     refine blkQ_here ?_
     refine W.seq ?_
     refine W.seq (W.region ?_)
     iterate 2 refine RW.v ?_
     refine RW.nil ?_
     refine W.rg [(1, .pointer (some ⟨b1, 0, none⟩)), (5, .string ⟨bs.toArray⟩), (6, .int .i64 ((i : Nat) : Int)), (68, .bool (decide (((i : Nat) : Int) > 0)))] fun TA => ?_
     refine W.cond rfl (fun hc30 => ?_) (fun hc30 => ?_)
     ·have hc30b := hc30
      have hc30 := of_decide_eq_true hc30
      have hi0 : 0 < i := by omega
      refine W.region ?_
      refine RW.v ?_
      refine RW.vop (v := .string ⟨(bs ++ ([10] : List UInt8)).toArray⟩) (by kernel_rfl) (by kernel_rfl) (vop_sAddL (a := bs) (b := ([10] : List UInt8)) rfl rfl rfl (by first | omega | (simp only [List.length_append, List.length_cons, List.length_nil]; omega))) (by kernel_rfl) ?_
      refine RW.v ?_
      refine RW.nil ?_
      refine W.rg [(1, .pointer (some ⟨b1, 0, none⟩)), (5, .string ⟨(bs ++ ([10] : List UInt8)).toArray⟩), (6, .int .i64 ((i : Nat) : Int))] fun TA => ?_
      refine W.drawn (by kernel_rfl) (by kernel_rfl) H.gn ?_
      have H31 := H
      iterate 2 refine RW.v ?_
      refine RW.ld H31 0 1 ?_
      refine RW.v ?_
      refine RW.idxF (hx.le le0) (by kernel_rfl) (by kernel_rfl) rfl Tryd.underlying22 (by kernel_rfl) rfl rfl ⟨by omega, by omega⟩ (by kernel_rfl) ?_
      intro b32 q33 r34 hF35 hE36
      rw [need_at (l := l) (j := i) (i := ((i : Nat) : Int)) (by omega) (by omega)] at hE36
      refine RW.v ?_
      refine RW.loads 1 (by kernel_rfl) (by kernel_rfl) rfl rfl (H31.old _ _ hF35) (sub_take hE36 0 1 (by decide)) rfl (by kernel_rfl) ?_
      refine RW.mkD H31 (x := .row ⟨[.int .i64 ((gD l i).1)], 3, false⟩) (fm := fun b => .slice (some ⟨b, 0, none⟩) 1 1) (by kernel_rfl) (by kernel_rfl) (by kernel_rfl) (by kernel_rfl) ?_
      intro _ b37 H38
      refine RW.cl ?_
      refine ((rtext1_wc hcd H38).mono ?_)
      rintro _ _ ⟨rfl, H39⟩
      refine RW.vop (v := .string ⟨((bs ++ ([10] : List UInt8)) ++ [(gD l i).1.toNat.toUInt8]).toArray⟩) (by kernel_rfl) (by kernel_rfl) (vop_sAddL (a := (bs ++ ([10] : List UInt8))) (b := [(gD l i).1.toNat.toUInt8]) rfl rfl rfl (by first | omega | (simp only [List.length_append, List.length_cons, List.length_nil]; omega))) (by kernel_rfl) ?_
      refine RW.v ?_
      refine RW.ld H39 0 1 ?_
      refine RW.v ?_
      refine RW.idxF (hx.le le0) (by kernel_rfl) (by kernel_rfl) rfl Tryd.underlying22 (by kernel_rfl) rfl rfl ⟨by omega, by omega⟩ (by kernel_rfl) ?_
      intro b40 q41 r42 hF43 hE44
      rw [need_at (l := l) (j := i) (i := ((i : Nat) : Int)) (by omega) (by omega)] at hE44
      refine RW.v ?_
      refine RW.loads 1 (by kernel_rfl) (by kernel_rfl) rfl rfl (H39.old _ _ hF43) (sub_take hE44 1 1 (by decide)) rfl (by kernel_rfl) ?_
      refine RW.vop (v := .string ⟨(((bs ++ ([10] : List UInt8)) ++ [(gD l i).1.toNat.toUInt8]) ++ (gD l i).2).toArray⟩) (by kernel_rfl) (by kernel_rfl) (vop_sAddL (a := ((bs ++ ([10] : List UInt8)) ++ [(gD l i).1.toNat.toUInt8])) (b := (gD l i).2) rfl rfl rfl (by first | omega | (simp only [List.length_append, List.length_cons, List.length_nil]; omega))) (by kernel_rfl) ?_
      refine RW.v ?_
      refine RW.nil ?_
      refine ⟨⟨by kernel_rfl, ⟨trivial, trivial, dyn_row (H31.get 0 rfl) (H39.get 0 rfl) ⟨nB, nB, nB, nB, nB, nB, nB, nB, fun _ => H38.get 1 rfl, nB, nB, nB, nB, nB, nB, nB, nB, nB, trivial⟩, trivial, trivial, trivial, dyn_row (H31.old _ _ hF35) (H39.old _ _ hF35) ⟨nB, nB, nB, nB, nB, nB, nB, nB, fun _ => H38.old _ _ hF35, nB, nB, nB, nB, nB, nB, nB, nB, nB, trivial⟩, Or.inl (by kernel_rfl), trivial, trivial, trivial, dyn_row (H39.get 0 rfl) (H39.get 0 rfl) ⟨nB, nB, nB, nB, nB, nB, nB, nB, fun _ => H38.get 1 rfl, nB, nB, nB, nB, nB, nB, nB, nB, nB, trivial⟩, trivial, trivial, trivial, dyn_row (H39.old _ _ hF43) (H39.old _ _ hF43) ⟨nB, nB, nB, nB, nB, nB, nB, nB, fun _ => H38.old _ _ hF43, nB, nB, nB, nB, nB, nB, nB, nB, nB, trivial⟩, trivial, trivial, trivial⟩⟩, ?_⟩
      replace H := H39
      clear H31 H38 H39
      refine blkQ_normal ?_
      refine W.rg [(1, .pointer (some ⟨b1, 0, none⟩)), (5, .string ⟨(((bs ++ ([10] : List UInt8)) ++ [(gD l i).1.toNat.toUInt8]) ++ (gD l i).2).toArray⟩), (6, .int .i64 ((i : Nat) : Int))] fun TA => ?_
      refine W.region ?_
      refine RW.v ?_
      refine RW.valE (v' := .int .i64 (((i + 1) : Nat) : Int)) (by kernel_rfl) (by kernel_rfl) rfl (congrArg (Value.int .i64) ((wrap_in (by omega) (by omega)).trans (by omega))) (by kernel_rfl) ?_
      refine RW.v ?_
      refine RW.nil ?_
      exact ⟨rfl, mm - 1, by omega, i + 1, (((bs ++ ([10] : List UInt8)) ++ [(gD l i).1.toNat.toUInt8]) ++ (gD l i).2), F, (by omega), le0, (all_snoc hil hall hgood), (by rw [hbs, join_snoc hil hi0, line_one hcd]; simp only [List.append_assoc, List.cons_append, List.nil_append]), (by simp only [List.length_append, List.length_singleton]; omega), H, rfl, rfl, rfl⟩
     ·have hc30b := hc30
      have hc30 := of_decide_eq_false hc30
      have hi0 : i = 0 := by omega
      refine W.skip ?_
      refine W.drawn (by kernel_rfl) (by kernel_rfl) H.gn ?_
      have H45 := H
      iterate 2 refine RW.v ?_
      refine RW.ld H45 0 1 ?_
      refine RW.v ?_
      refine RW.idxF (hx.le le0) (by kernel_rfl) (by kernel_rfl) rfl Tryd.underlying22 (by kernel_rfl) rfl rfl ⟨by omega, by omega⟩ (by kernel_rfl) ?_
      intro b46 q47 r48 hF49 hE50
      rw [need_at (l := l) (j := i) (i := ((i : Nat) : Int)) (by omega) (by omega)] at hE50
      refine RW.v ?_
      refine RW.loads 1 (by kernel_rfl) (by kernel_rfl) rfl rfl (H45.old _ _ hF49) (sub_take hE50 0 1 (by decide)) rfl (by kernel_rfl) ?_
      refine RW.mkD H45 (x := .row ⟨[.int .i64 ((gD l i).1)], 3, false⟩) (fm := fun b => .slice (some ⟨b, 0, none⟩) 1 1) (by kernel_rfl) (by kernel_rfl) (by kernel_rfl) (by kernel_rfl) ?_
      intro _ b51 H52
      refine RW.cl ?_
      refine ((rtext1_wc hcd H52).mono ?_)
      rintro _ _ ⟨rfl, H53⟩
      refine RW.vop (v := .string ⟨(bs ++ [(gD l i).1.toNat.toUInt8]).toArray⟩) (by kernel_rfl) (by kernel_rfl) (vop_sAddL (a := bs) (b := [(gD l i).1.toNat.toUInt8]) rfl rfl rfl (by first | omega | (simp only [List.length_append, List.length_cons, List.length_nil]; omega))) (by kernel_rfl) ?_
      refine RW.v ?_
      refine RW.ld H53 0 1 ?_
      refine RW.v ?_
      refine RW.idxF (hx.le le0) (by kernel_rfl) (by kernel_rfl) rfl Tryd.underlying22 (by kernel_rfl) rfl rfl ⟨by omega, by omega⟩ (by kernel_rfl) ?_
      intro b54 q55 r56 hF57 hE58
      rw [need_at (l := l) (j := i) (i := ((i : Nat) : Int)) (by omega) (by omega)] at hE58
      refine RW.v ?_
      refine RW.loads 1 (by kernel_rfl) (by kernel_rfl) rfl rfl (H53.old _ _ hF57) (sub_take hE58 1 1 (by decide)) rfl (by kernel_rfl) ?_
      refine RW.vop (v := .string ⟨((bs ++ [(gD l i).1.toNat.toUInt8]) ++ (gD l i).2).toArray⟩) (by kernel_rfl) (by kernel_rfl) (vop_sAddL (a := (bs ++ [(gD l i).1.toNat.toUInt8])) (b := (gD l i).2) rfl rfl rfl (by first | omega | (simp only [List.length_append, List.length_cons, List.length_nil]; omega))) (by kernel_rfl) ?_
      refine RW.v ?_
      refine RW.nil ?_
      refine ⟨⟨by kernel_rfl, ⟨trivial, trivial, dyn_row (H45.get 0 rfl) (H53.get 0 rfl) ⟨nB, nB, nB, nB, nB, nB, nB, nB, fun _ => H52.get 1 rfl, nB, nB, nB, nB, nB, nB, nB, nB, nB, trivial⟩, trivial, trivial, trivial, dyn_row (H45.old _ _ hF49) (H53.old _ _ hF49) ⟨nB, nB, nB, nB, nB, nB, nB, nB, fun _ => H52.old _ _ hF49, nB, nB, nB, nB, nB, nB, nB, nB, nB, trivial⟩, Or.inl (by kernel_rfl), trivial, trivial, trivial, dyn_row (H53.get 0 rfl) (H53.get 0 rfl) ⟨nB, nB, nB, nB, nB, nB, nB, nB, fun _ => H52.get 1 rfl, nB, nB, nB, nB, nB, nB, nB, nB, nB, trivial⟩, trivial, trivial, trivial, dyn_row (H53.old _ _ hF57) (H53.old _ _ hF57) ⟨nB, nB, nB, nB, nB, nB, nB, nB, fun _ => H52.old _ _ hF57, nB, nB, nB, nB, nB, nB, nB, nB, nB, trivial⟩, trivial, trivial, trivial⟩⟩, ?_⟩
      replace H := H53
      clear H45 H52 H53
      refine blkQ_normal ?_
      refine W.rg [(1, .pointer (some ⟨b1, 0, none⟩)), (5, .string ⟨((bs ++ [(gD l i).1.toNat.toUInt8]) ++ (gD l i).2).toArray⟩), (6, .int .i64 ((i : Nat) : Int))] fun TA => ?_
      refine W.region ?_
      refine RW.v ?_
      refine RW.valE (v' := .int .i64 (((i + 1) : Nat) : Int)) (by kernel_rfl) (by kernel_rfl) rfl (congrArg (Value.int .i64) ((wrap_in (by omega) (by omega)).trans (by omega))) (by kernel_rfl) ?_
      refine RW.v ?_
      refine RW.nil ?_
      exact ⟨rfl, mm - 1, by omega, i + 1, ((bs ++ [(gD l i).1.toNat.toUInt8]) ++ (gD l i).2), F, (by omega), le0, (all_snoc hil hall hgood), (by rw [hbs, join_first hil hi0, line_one hcd]; simp only [List.append_assoc, List.cons_append, List.nil_append]), (by simp only [List.length_append, List.length_singleton]; omega), H, rfl, rfl, rfl⟩
 ·have hc11b := hc11
  have hc11 := of_decide_eq_false hc11
  refine W.exit _ ?_
  refine seqQ_exit ?_
  refine rndQ_exit ?_
  obtain rfl : i = l.length := by omega
  refine blkQ_here ?_
  refine W.seq (W.region ?_)
  iterate 3 refine RW.v ?_
  refine RW.nil ?_
  replace H := (H.del 0)
  dsimp only [setL, delL] at H
  refine W.ret ?_
  refine endG (by rfl) (by exact resL_tmp (by exact resL_tmp rfl)) ?_
  have et : textM ⟨xw, xe, xh, l⟩ = (bs, 0) := text_okN (by rw [List.take_length] at hall; exact hall) (by rw [List.take_length] at hbs; exact hbs)
  rw [et]
  exact ⟨rfl, H.back le0⟩
theorem st_noneN {F : Nat → Option Blk2} {l : List Need} {b : Nat} {t : TypeId} {g : Bool} (h : l.length = 0) (hq : F b = some (.row ⟨[], t, g⟩)) : SlF F 2 (.slice (some ⟨b, 0, none⟩) 0 0) l.length (needC l) := by
 obtain rfl := List.eq_nil_of_length_eq_zero h
 exact .some hq rfl rfl
set_option maxHeartbeats 8000000 in
theorem ownN_wc {G : Nat} {A : Abs} {σ : Mem} {F : Nat → Option Blk2} {L : List Ent} {v1 : Value} {l : List Need} (h1 : SlF F 2 v1 l.length (needC l)) (hl : l.length ≤ 1000000) (H : Lies G A F σ L) : WC G Tryd.prog 6 #[v1] σ fun v σ' => ∃ F', Le F F' ∧ SlF F' 2 v l.length (needC l) ∧ Lies G A F' σ' L := by
 refine WC.enter (fn := Tryd.f6) Tryd.func6 rfl ?_
 refine W.rg [(0, v1)] fun TA => ?_
 refine W.seq (W.region ?_)
 refine RW.v ?_
 refine RW.nil ?_
 refine W.rg [(0, v1)] fun TA => ?_
 refine W.seq (W.region ?_)
 refine RW.mkL H (x := .row ⟨[], 29, false⟩) (fm := fun b => .slice (some ⟨b, 0, none⟩) 0 0) (by kernel_rfl) (by kernel_rfl) (by kernel_rfl) (by kernel_rfl) ?_
 clear H; intro _ b1 _ H
 refine RW.v ?_
 rcases Nat.eq_zero_or_pos l.length with h0 | h0
 ·have hs0 : SlF F 2 v1 0 (needC l) := h0 ▸ h1
  refine RW.appN H (e := 29) (e2 := 29) hs0 (by kernel_rfl) (by kernel_rfl) rfl rfl rfl rfl rfl rfl (Nat.le_refl _) (by kernel_rfl) (by kernel_rfl) (by kernel_rfl) (by decide) (by kernel_rfl) ?_
  refine RW.v ?_
  refine RW.nil ?_
  refine W.ret ?_
  refine endG (by rfl) (by exact resL_tmp rfl) ?_
  obtain ⟨F', le, hq, H⟩ := H.freeze 0 rfl
  dsimp only [setL, delL] at H
  exact ⟨F', le, (st_noneN h0 hq), H⟩
 ·refine RW.appS H (e := 29) (e2 := 29) h1 (by kernel_rfl) (by kernel_rfl) rfl rfl rfl rfl rfl rfl (H.get 0 rfl) rfl h0 (by kernel_rfl) (by kernel_rfl) (by kernel_rfl) (by decide) (by omega) (by kernel_rfl) ?_
  clear H; intro _ v2 H
  refine RW.v ?_
  refine RW.nil ?_
  replace H := (H.del 1)
  dsimp only [setL, delL] at H
  refine W.ret ?_
  refine endG (by rfl) (by exact resL_tmp rfl) ?_
  obtain ⟨F', le, hq, H⟩ := H.freezeSl 0 rfl
  rw [Nat.zero_add, List.nil_append] at hq
  dsimp only [setL, delL] at H
  exact ⟨F', le, hq, H⟩
theorem eqNd (a : Int) (s : ByteArray) (w : World) : (Op.equalIn 10000 29 (.agg #[.int .i64 a, .string s]) (.agg #[.int .i64 a, .string s])).run Tryd.prog w = .ok true w := by
 have u3 := Tryd.underlying3
 have u9 := Tryd.underlying9
 have hS : Tryd.prog.underlying 29 = some (.struct (Tryd.prog.fieldsOf 29)) := by kernel_rfl
 have hp : Tryd.prog.stoodInHeld 29 = false := by kernel_rfl
 rw [show (10000 : Nat) = 9999 + 1 from rfl, run_equalIn_agg w 9999 29 _ _ hS hp]
 simp only [Program.fieldsOf, Tryd.underlying29]
 go_simp
theorem eqFa (a b : Int) (w : World) : (Op.equalIn 10000 33 (.agg #[.int .i64 a, .int .i64 b]) (.agg #[.int .i64 a, .int .i64 b])).run Tryd.prog w = .ok true w := by
 have u3 := Tryd.underlying3
 have u9 := Tryd.underlying31
 have hS : Tryd.prog.underlying 33 = some (.struct (Tryd.prog.fieldsOf 33)) := by kernel_rfl
 have hp : Tryd.prog.stoodInHeld 33 = false := by kernel_rfl
 rw [show (10000 : Nat) = 9999 + 1 from rfl, run_equalIn_agg w 9999 33 _ _ hS hp]
 simp only [Program.fieldsOf, Tryd.underlying33]
 go_simp
set_option maxHeartbeats 8000000 in
theorem sameN_wc {G : Nat} {A : Abs} {σ : Mem} {F : Nat → Option Blk2} {L : List Ent} {v1 v2 : Value} {l : List Need} (h1 : SlF F 2 v1 l.length (needC l)) (h2 : SlF F 2 v2 l.length (needC l)) (hl : l.length ≤ 1000000) (H : Lies G A F σ L) : WC G Tryd.prog 33 #[v1, v2] σ fun v σ' => v = .bool true ∧ Lies G A F σ' L := by
 refine WC.enter (fn := Tryd.f33) Tryd.func33 rfl ?_
 refine W.rg [(0, v1), (1, v2)] fun TA => ?_
 refine W.seq (W.region ?_)
 refine RW.v ?_
 refine RW.nil ?_
 refine W.rg [(0, v1), (1, v2)] fun TA => ?_
 refine W.seq ?_
 refine W.seq (W.region ?_)
 refine RW.v ?_
 refine RW.len (by kernel_rfl) (by kernel_rfl) rfl rfl rfl rfl (h1.len (e := 29) (by kernel_rfl)) (by kernel_rfl) ?_
 refine RW.v ?_
 refine RW.len (by kernel_rfl) (by kernel_rfl) rfl rfl rfl rfl (h2.len (e := 29) (by kernel_rfl)) (by kernel_rfl) ?_
 refine RW.valE (v' := .bool false) (by kernel_rfl) (by kernel_rfl) rfl (congrArg Value.bool (bne_eq_false_iff_eq.2 (by rfl))) (by kernel_rfl) ?_
 refine RW.nil ?_
 refine W.c0 ?_
 refine W.skip ?_
 refine W.seq ?_
 refine W.seq (W.region ?_)
 refine RW.v ?_
 refine RW.nil ?_
 refine W.rg [(0, v1), (1, v2), (5, .int .i64 0)] fun TA => ?_
 refine W.block ?_
 refine W.loop (fun mm ta σ => ∃ (i : Nat), (mm + i = l.length) ∧ Lies G A F σ ((L)) ∧ ta 0 = v1 ∧ ta 1 = v2 ∧ ta 5 = .int .i64 ((i : Nat) : Int)) l.length ?_ ?_
 ·exact ⟨0, (by omega), H, rfl, rfl, rfl⟩
 clear H
 rintro mm ta _ ⟨i, hm, H, e0, e1, e5⟩
 refine W.rst [(0, v1), (1, v2), (5, .int .i64 ((i : Nat) : Int))] ⟨e0, e1, e5, trivial⟩ fun TA => ?_
 clear e0 e1 e5
 refine W.seq ?_
 refine W.seq (W.region ?_)
 iterate 2 refine RW.v ?_
 refine RW.len (by kernel_rfl) (by kernel_rfl) rfl rfl rfl rfl (h1.len (e := 29) (by kernel_rfl)) (by kernel_rfl) ?_
 refine RW.v ?_
 refine RW.nil ?_
 refine W.rg [(0, v1), (1, v2), (5, .int .i64 ((i : Nat) : Int)), (14, .bool (decide (((i : Nat) : Int) < (l.length : Int))))] fun TA => ?_
 refine W.cond rfl (fun hc1 => ?_) (fun hc1 => ?_)
 ·have hc1b := hc1
  have hc1 := of_decide_eq_true hc1
  have hil : i < l.length := by omega
  refine W.skip ?_
  refine W.seq ?_
  refine W.block ?_
  refine W.seq ?_
  refine W.drawn (by kernel_rfl) (by kernel_rfl) H.gn ?_
  have H2 := H
  iterate 2 refine RW.v ?_
  refine RW.idxF h1 (by kernel_rfl) (by kernel_rfl) rfl Tryd.underlying22 (by kernel_rfl) rfl rfl ⟨by omega, by omega⟩ (by kernel_rfl) ?_
  intro b3 q4 r5 hF6 hE7
  rw [need_at (l := l) (j := i) (i := ((i : Nat) : Int)) (by omega) (by omega)] at hE7
  refine RW.loads 2 (by kernel_rfl) (by kernel_rfl) rfl rfl (H2.old _ _ hF6) hE7 rfl (by kernel_rfl) ?_
  iterate 2 refine RW.v ?_
  refine RW.idxF h2 (by kernel_rfl) (by kernel_rfl) rfl Tryd.underlying22 (by kernel_rfl) rfl rfl ⟨by omega, by omega⟩ (by kernel_rfl) ?_
  intro b8 q9 r10 hF11 hE12
  rw [need_at (l := l) (j := i) (i := ((i : Nat) : Int)) (by omega) (by omega)] at hE12
  refine RW.loads 2 (by kernel_rfl) (by kernel_rfl) rfl rfl (H2.old _ _ hF11) hE12 rfl (by kernel_rfl) ?_
  refine RW.vop (v := .bool false) (by kernel_rfl) (by kernel_rfl) (vop_eqS (b := true) (r := false) rfl (.inr ⟨rfl, rfl⟩) rfl rfl rfl rfl (by kernel_rfl) (fun w => eqNd _ _ w)) (by kernel_rfl) ?_
  refine RW.nil ?_
  refine ⟨⟨by kernel_rfl, ⟨trivial, trivial, trivial, dyn_row (H2.old _ _ hF6) (H2.old _ _ hF6) ⟨nB, nB, nB, nB, nB, nB, nB, nB, nB, trivial⟩, trivial, trivial, trivial, dyn_row (H2.old _ _ hF11) (H2.old _ _ hF11) ⟨nB, nB, nB, nB, nB, nB, nB, nB, nB, trivial⟩, trivial, trivial⟩⟩, ?_⟩
  replace H := H2
  clear H2
  refine W.c0 ?_
  refine W.skip ?_
  refine blkQ_normal ?_
  refine W.region ?_
  refine RW.v ?_
  refine RW.valE (v' := .int .i64 (((i : Nat) : Int) + 1)) (by kernel_rfl) (by kernel_rfl) rfl (congrArg (Value.int .i64) (wrap_in (by omega) (by omega))) (by kernel_rfl) ?_
  refine RW.v ?_
  refine RW.nil ?_
  exact ⟨rfl, mm - 1, by omega, i + 1, (by omega), H, rfl, rfl, rfl⟩
 ·have hc1b := hc1
  have hc1 := of_decide_eq_false hc1
  refine W.exit _ ?_
  refine seqQ_exit ?_
  refine rndQ_exit ?_
  refine blkQ_here ?_
  refine W.seq (W.region ?_)
  refine RW.v ?_
  refine RW.nil ?_
  refine W.ret ?_
  refine endG (by rfl) (by exact resL_tmp rfl) ?_
  exact ⟨rfl, H⟩
set_option maxHeartbeats 8000000 in
theorem speceq_wc {G : Nat} {A : Abs} {σ : Mem} {F : Nat → Option Blk2} {L : List Ent} {v1 v2 : Value} {xw xe xh : Bool} {l : List Need} (h1 : SlF F 2 v1 l.length (needC l)) (h2 : SlF F 2 v2 l.length (needC l)) (hl : l.length ≤ 1000000) (H : Lies G A F σ L) : WC G Tryd.prog 11 #[.agg #[.bool xw, .bool xe, .bool xh, v1], .agg #[.bool xw, .bool xe, .bool xh, v2]] σ fun v σ' => v = .bool true ∧ Lies G A F σ' L := by
 refine WC.enter (fn := Tryd.f11) Tryd.func11 rfl ?_
 refine W.rg [(0, .agg #[.bool xw, .bool xe, .bool xh, v1]), (1, .agg #[.bool xw, .bool xe, .bool xh, v2])] fun TA => ?_
 refine W.seq (W.region ?_)
 refine RW.mkL H (x := .row ⟨[.bool xw, .bool xe, .bool xh, v1], 24, false⟩) (fm := fun b => .pointer (some ⟨b, 0, none⟩)) (by kernel_rfl) (by kernel_rfl) (by rcases slf_forms h1 with rfl | ⟨_, rfl⟩ | ⟨_, _, _, _, _, rfl⟩ <;> kernel_rfl) (by kernel_rfl) ?_
 clear H; intro _ b1 _ H
 refine RW.mkL H (x := .row ⟨[.bool xw, .bool xe, .bool xh, v2], 24, false⟩) (fm := fun b => .pointer (some ⟨b, 0, none⟩)) (by kernel_rfl) (by kernel_rfl) (by rcases slf_forms h2 with rfl | ⟨_, rfl⟩ | ⟨_, _, _, _, _, rfl⟩ <;> kernel_rfl) (by kernel_rfl) ?_
 clear H; intro _ b2 _ H
 refine RW.v ?_
 refine RW.nil ?_
 refine W.rg [(2, .pointer (some ⟨b1, 0, none⟩)), (3, .pointer (some ⟨b2, 0, none⟩))] fun TA => ?_
 refine W.seq (W.region ?_)
 refine RW.v ?_
 refine RW.ld H 1 1 ?_
 refine RW.v ?_
 refine RW.ld H 0 1 ?_
 refine RW.valE (v' := .bool true) (by kernel_rfl) (by kernel_rfl) rfl (by cases xw <;> rfl) (by kernel_rfl) ?_
 refine RW.v ?_
 refine RW.w ?_
 refine RW.ldL H 1 1 (by rfl) (by kernel_rfl) rfl rfl rfl rfl rfl (by kernel_rfl) ?_
 refine RW.w ?_
 refine RW.ldL H 0 1 (by rfl) (by kernel_rfl) rfl rfl rfl rfl rfl (by kernel_rfl) ?_
 refine RW.valE (v' := .bool true) (by rfl) (by kernel_rfl) rfl (by cases xe <;> rfl) (by kernel_rfl) ?_
 iterate 2 refine RW.v ?_
 refine RW.w ?_
 refine RW.ldL H 1 1 (by rfl) (by kernel_rfl) rfl rfl rfl rfl rfl (by kernel_rfl) ?_
 refine RW.w ?_
 refine RW.ldL H 0 1 (by rfl) (by kernel_rfl) rfl rfl rfl rfl rfl (by kernel_rfl) ?_
 refine RW.valE (v' := .bool true) (by rfl) (by kernel_rfl) rfl (by cases xh <;> rfl) (by kernel_rfl) ?_
 iterate 2 refine RW.v ?_
 refine RW.w ?_
 refine RW.ldL H 1 1 (by rfl) (by kernel_rfl) rfl rfl rfl rfl rfl (by kernel_rfl) ?_
 refine RW.w ?_
 refine RW.ldL H 0 1 (by rfl) (by kernel_rfl) rfl rfl rfl rfl rfl (by kernel_rfl) ?_
 refine RW.cl (hw := by rfl) ?_
 refine ((sameN_wc h1 h2 hl H).mono ?_)
 clear H
 rintro _ _ ⟨rfl, H⟩
 iterate 2 refine RW.v ?_
 refine RW.nil ?_
 replace H := ((H.del 1).del 0)
 dsimp only [setL, delL] at H
 refine W.ret ?_
 refine endG (by rfl) (by exact resL_tmp rfl) ?_
 exact ⟨rfl, H⟩
end Go.Proofs.YthemeeiedlbhkaaDoor
namespace Go.Proofs.YthemeeiedlbhkaaDoor
open Go.Lib
set_option maxRecDepth 100000
theorem needsG_len : ∀ (k : Nat) (a : Int) (r : List Int), (needsG k a r).1.length ≤ r.length
 | k, a, [] => by cases k <;> exact Nat.le_refl _
 | 0, a, c :: r => Nat.zero_le _
 | k + 1, a, c :: r => by
  unfold needsG
  split
  ·have := needsG_len k (a + ((lineP r).length : Int) + 2) (r.drop ((lineP r).length + 1))
   rw [List.length_drop] at this
   show _ + 1 ≤ r.length + 1
   omega
  ·exact Nat.zero_le _
theorem parse_len (s : List UInt8) : (parseM s).1.n.length ≤ s.length := by
 unfold parseM
 by_cases hv : validD s = false
 ·rw [if_pos hv]; exact Nat.zero_le _
 ·rw [if_neg hv]
  split
  ·exact Nat.zero_le _
  ·refine Nat.le_trans (needsG_len _ _ _) ?_
   have hv : validD s = true := by simpa using hv
   have := rest_len hv
   have := enc_ge (restR s)
   omega
set_option maxHeartbeats 16000000 in
theorem cspecs_law {G : Nat} {σ0 : Mem} {xv : Value} {xw xe xh pc : Bool} {l : List Need} {s : List UInt8} {cd pa pb : Int} (hG : G ≤ σ0.next) (hno : σ0.abs = Abs.no) (h16 : 16 ≤ G) (h64 : 64 ≤ G) (hU : U8F σ0.get) (CK : ∀ σ', (∀ b y, σ0.get b = some y → σ'.get b = some y) → SCall G Tryd.prog 5 #[] σ' (.bool true) σ') (hx : SlF σ0.get 2 xv l.length (needC l)) :
  WC G Tryd.prog 3 #[.string ⟨s.toArray⟩, .agg #[.bool xw, .bool xe, .bool xh, xv], .int .i64 cd, .agg #[.int .i64 pa, .int .i64 pb, .bool pc]] σ0 fun v _ => v = .bool true := by
 obtain ⟨Y, hY⟩ : ∃ Y, Y = parseM s := ⟨_, rfl⟩
 obtain ⟨V, hV⟩ : ∃ V, V = textM ⟨xw, xe, xh, l⟩ := ⟨_, rfl⟩
 obtain ⟨K, hK⟩ : ∃ K, K = asksM cd pa := ⟨_, rfl⟩
 have hYl : s.length ≤ 300 → Y.1.n.length ≤ 1000000 := fun h => by rw [hY]; exact Nat.le_trans (parse_len s) (Nat.le_trans h (by decide))
 have H := Lies.start hG hno
 generalize σ0.get = F0 at H hx hU CK
 obtain ⟨F, hF⟩ : ∃ F, F = F0 := ⟨_, rfl⟩
 have le0 : Le F0 F := fun b y h => hF ▸ h
 rw [← hF] at H
 clear hF
 refine WC.enter (fn := Tryd.f3) Tryd.func3 rfl ?_
 refine W.rg [(0, .string ⟨s.toArray⟩), (1, .agg #[.bool xw, .bool xe, .bool xh, xv]), (2, .int .i64 cd), (3, .agg #[.int .i64 pa, .int .i64 pb, .bool pc])] fun TA => ?_
 refine W.seq (W.region ?_)
 refine RW.mkL H (x := .row ⟨[.bool xw, .bool xe, .bool xh, xv], 24, false⟩) (fm := fun b => .pointer (some ⟨b, 0, none⟩)) (by kernel_rfl) (by kernel_rfl) (by rcases slf_forms (hx.le le0) with rfl | ⟨_, rfl⟩ | ⟨_, _, _, _, _, rfl⟩ <;> kernel_rfl) (by kernel_rfl) ?_
 clear H; intro _ b1 _ H
 refine RW.mk H (.row ⟨[.int .i64 pa, .int .i64 pb, .bool pc], 26, false⟩) ?_
 clear H; intro _ b2 _ H
 refine RW.v ?_
 refine RW.nil ?_
 refine W.rg [(0, .string ⟨s.toArray⟩), (2, .int .i64 cd), (5, .pointer (some ⟨b1, 0, none⟩)), (7, .pointer (some ⟨b2, 0, none⟩))] fun TA => ?_
 refine W.seq ?_
 refine W.seq (W.region ?_)
 refine RW.v ?_
 refine RW.vop (v := .int .i64 (s.length : Int)) (by kernel_rfl) (by kernel_rfl) (vop_sLenL rfl rfl rfl rfl Tryd.underlying9 rfl) (by kernel_rfl) ?_
 iterate 2 refine RW.v ?_
 refine RW.both _ _ rfl rfl rfl (fun hc3 => ?_) (fun hc3 => ?_)
 ·have hc3b := hc3
  have hc3 := of_decide_eq_true hc3
  iterate 4 refine RW.s ?_
  refine RW.v ?_
  refine RW.nil ?_
  refine W.c1 ?_
  refine W.seq (W.region ?_)
  refine RW.cl ?_
  refine ⟨_, _, (CK _ fun b y h => H.old _ _ (le0 b y h)), ?_⟩
  refine RW.v ?_
  refine RW.nil ?_
  replace H := ((H.del 1).del 0)
  dsimp only [setL, delL] at H
  refine W.ret ?_
  refine seqQ_ret ?_
  refine endG (by rfl) (by exact resL_tmp rfl) ?_
  exact rfl
 ·have hc3b := hc3
  have hc3 := of_decide_eq_false hc3
  refine RW.w ?_
  refine RW.ldL H 1 1 (by rfl) (by kernel_rfl) rfl rfl rfl rfl rfl (by kernel_rfl) ?_
  refine RW.len (by rfl) (by kernel_rfl) rfl rfl rfl rfl ((hx.le le0).len (e := 29) (by kernel_rfl)) (by kernel_rfl) ?_
  refine RW.w ?_
  refine RW.v ?_
  refine RW.nil ?_
  refine W.rg [(0, .string ⟨s.toArray⟩), (2, .int .i64 cd), (5, .pointer (some ⟨b1, 0, none⟩)), (7, .pointer (some ⟨b2, 0, none⟩)), (27, .bool (decide ((l.length : Int) > 40)))] fun TA => ?_
  refine W.cond rfl (fun hc4 => ?_) (fun hc4 => ?_)
  ·have hc4b := hc4
   have hc4 := of_decide_eq_true hc4
   refine W.seq (W.region ?_)
   refine RW.cl ?_
   refine ⟨_, _, (CK _ fun b y h => H.old _ _ (le0 b y h)), ?_⟩
   refine RW.v ?_
   refine RW.nil ?_
   replace H := ((H.del 1).del 0)
   dsimp only [setL, delL] at H
   refine W.ret ?_
   refine seqQ_ret ?_
   refine endG (by rfl) (by exact resL_tmp rfl) ?_
   exact rfl
  ·have hc4b := hc4
   have hc4 := of_decide_eq_false hc4
   refine W.skip ?_
   refine W.seq ?_
   refine W.seq (W.region ?_)
   refine RW.v ?_
   refine RW.nil ?_
   refine W.rg [(0, .string ⟨s.toArray⟩), (2, .int .i64 cd), (5, .pointer (some ⟨b1, 0, none⟩)), (7, .pointer (some ⟨b2, 0, none⟩)), (9, .int .i64 0)] fun TA => ?_
   refine W.block ?_
   refine W.loop (fun mm ta σ => ∃ (i : Nat), (mm + i = l.length) ∧ (∀ j, j < i → (gD l j).2.length ≤ 60) ∧ Lies G Abs.no F σ (.at_ b2 (.row ⟨[.int .i64 pa, .int .i64 pb, .bool pc], 26, false⟩) :: .at_ b1 (.row ⟨[.bool xw, .bool xe, .bool xh, xv], 24, false⟩) :: ([])) ∧ ta 0 = .string ⟨s.toArray⟩ ∧ ta 2 = .int .i64 cd ∧ ta 5 = .pointer (some ⟨b1, 0, none⟩) ∧ ta 7 = .pointer (some ⟨b2, 0, none⟩) ∧ ta 9 = .int .i64 ((i : Nat) : Int)) l.length ?_ ?_
   ·exact ⟨0, (by omega), (fun j hj => absurd hj (Nat.not_lt_zero _)), H, rfl, rfl, rfl, rfl, rfl⟩
   clear H
   rintro mm ta _ ⟨i, hm, hq, H, e0, e2, e5, e7, e9⟩
   refine W.rst [(0, .string ⟨s.toArray⟩), (2, .int .i64 cd), (5, .pointer (some ⟨b1, 0, none⟩)), (7, .pointer (some ⟨b2, 0, none⟩)), (9, .int .i64 ((i : Nat) : Int))] ⟨e0, e2, e5, e7, e9, trivial⟩ fun TA => ?_
   clear e0 e2 e5 e7 e9
   refine W.seq ?_
   refine W.seq (W.region ?_)
   iterate 2 refine RW.v ?_
   refine RW.ld H 1 1 ?_
   refine RW.len (by kernel_rfl) (by kernel_rfl) rfl rfl rfl rfl ((hx.le le0).len (e := 29) (by kernel_rfl)) (by kernel_rfl) ?_
   refine RW.v ?_
   refine RW.nil ?_
   refine W.rg [(0, .string ⟨s.toArray⟩), (2, .int .i64 cd), (5, .pointer (some ⟨b1, 0, none⟩)), (7, .pointer (some ⟨b2, 0, none⟩)), (9, .int .i64 ((i : Nat) : Int)), (33, .bool (decide (((i : Nat) : Int) < (l.length : Int))))] fun TA => ?_
   refine W.cond rfl (fun hc5 => ?_) (fun hc5 => ?_)
   ·have hc5b := hc5
    have hc5 := of_decide_eq_true hc5
    have hil : i < l.length := by omega
    refine W.skip ?_
    refine W.seq ?_
    refine W.block ?_
    refine W.seq (W.region ?_)
    refine RW.v ?_
    refine RW.ld H 1 1 ?_
    refine RW.v ?_
    refine RW.idxF (hx.le le0) (by kernel_rfl) (by kernel_rfl) rfl Tryd.underlying22 (by kernel_rfl) rfl rfl ⟨by omega, by omega⟩ (by kernel_rfl) ?_
    intro b6 q7 r8 hF9 hE10
    rw [need_at (l := l) (j := i) (i := ((i : Nat) : Int)) (by omega) (by omega)] at hE10
    refine RW.v ?_
    refine RW.loads 1 (by kernel_rfl) (by kernel_rfl) rfl rfl (H.old _ _ hF9) (sub_take hE10 1 1 (by decide)) rfl (by kernel_rfl) ?_
    refine RW.vop (v := .int .i64 (((gD l i).2).length : Int)) (by kernel_rfl) (by kernel_rfl) (vop_sLenL rfl rfl rfl rfl Tryd.underlying9 rfl) (by kernel_rfl) ?_
    refine RW.v ?_
    refine RW.nil ?_
    refine W.rg [(0, .string ⟨s.toArray⟩), (2, .int .i64 cd), (5, .pointer (some ⟨b1, 0, none⟩)), (7, .pointer (some ⟨b2, 0, none⟩)), (9, .int .i64 ((i : Nat) : Int)), (43, .bool (decide ((((gD l i).2).length : Int) > 60)))] fun TA => ?_
    refine W.cond rfl (fun hc11 => ?_) (fun hc11 => ?_)
    ·have hc11b := hc11
     have hc11 := of_decide_eq_true hc11
     refine W.seq (W.region ?_)
     refine RW.cl ?_
     refine ⟨_, _, (CK _ fun b y h => H.old _ _ (le0 b y h)), ?_⟩
     refine RW.v ?_
     refine RW.nil ?_
     replace H := ((H.del 1).del 0)
     dsimp only [setL, delL] at H
     refine W.ret ?_
     refine blkQ_ret ?_
     refine seqQ_ret ?_
     refine rndQ_ret ?_
     refine blkQ_ret ?_
     refine seqQ_ret ?_
     refine endG (by rfl) (by exact resL_tmp rfl) ?_
     exact rfl
    ·have hc11b := hc11
     have hc11 := of_decide_eq_false hc11
     refine W.skip ?_
     refine blkQ_normal ?_
     refine W.region ?_
     refine RW.v ?_
     refine RW.valE (v' := .int .i64 (((i + 1) : Nat) : Int)) (by kernel_rfl) (by kernel_rfl) rfl (congrArg (Value.int .i64) ((wrap_in (by omega) (by omega)).trans (by omega))) (by kernel_rfl) ?_
     refine RW.v ?_
     refine RW.nil ?_
     exact ⟨rfl, mm - 1, by omega, i + 1, (by omega), (fun j hj => by rcases Nat.lt_or_ge j i with h | h; exact hq j h; obtain rfl : j = i := (by omega); omega), H, rfl, rfl, rfl, rfl, rfl⟩
   ·have hc5b := hc5
    have hc5 := of_decide_eq_false hc5
    refine W.exit _ ?_
    refine seqQ_exit ?_
    refine rndQ_exit ?_
    have hpr60 : ∀ n ∈ l, n.2.length ≤ 60 := fun n hn => by obtain ⟨j, hj, e⟩ := List.mem_iff_getElem.1 hn; have := hq j (by omega); rw [gD_get hj, e] at this; exact this
    have hpr : ∀ n ∈ l, n.2.length ≤ 1000 := fun n hn => Nat.le_trans (hpr60 n hn) (by decide)
    have hll : l.length ≤ 300 := by omega
    clear hq hm
    try clear mm i
    refine blkQ_here ?_
    refine W.seq (W.region ?_)
    refine RW.ld H 1 4 ?_
    refine RW.mk H (.row ⟨[.bool false, .bool false, .bool false, .slice none 0 0], 24, false⟩) ?_
    clear H; intro _ b12 _ H
    refine RW.stL H 0 (vs := [.bool xw, .bool xe, .bool xh, xv]) (cs' := [.bool xw, .bool xe, .bool xh, xv]) (by kernel_rfl) (by kernel_rfl) rfl rfl rfl (by rcases slf_forms (hx.le le0) with rfl | ⟨_, rfl⟩ | ⟨_, _, _, _, _, rfl⟩ <;> rfl) (by rcases slf_forms (hx.le le0) with rfl | ⟨_, rfl⟩ | ⟨_, _, _, _, _, rfl⟩ <;> rfl) (by kernel_rfl) (Nat.le_of_ble_eq_true rfl) rfl (by kernel_rfl) ?_
    clear H; intro _ _ H; dsimp only [setL, delL] at H
    refine RW.nil ?_
    refine W.rg [(0, .string ⟨s.toArray⟩), (2, .int .i64 cd), (5, .pointer (some ⟨b1, 0, none⟩)), (7, .pointer (some ⟨b2, 0, none⟩)), (10, .pointer (some ⟨b12, 0, none⟩))] fun TA => ?_
    refine W.seq (W.region ?_)
    refine RW.v ?_
    refine RW.ld H 2 1 ?_
    refine RW.cl ?_
    refine ((ownN_wc (hx.le le0) (by omega) H).mono ?_)
    clear H
    rintro iv _ ⟨F, le, hiv, H⟩
    replace le0 := fun b y h => le b y (le0 b y h)
    clear le
    refine RW.v ?_
    refine RW.stL H 0 (vs := [iv]) (cs' := [.bool xw, .bool xe, .bool xh, iv]) (by kernel_rfl) (by kernel_rfl) rfl rfl rfl (slf_one hiv) (slf_all hiv) (by kernel_rfl) (Nat.le_of_ble_eq_true rfl) rfl (by kernel_rfl) ?_
    clear H; intro _ _ H; dsimp only [setL, delL] at H
    refine RW.nil ?_
    refine W.rg [(0, .string ⟨s.toArray⟩), (2, .int .i64 cd), (5, .pointer (some ⟨b1, 0, none⟩)), (7, .pointer (some ⟨b2, 0, none⟩)), (10, .pointer (some ⟨b12, 0, none⟩))] fun TA => ?_
    refine W.seq (W.region ?_)
    refine RW.v ?_
    have hp := parse_wc (s := s) (hU.le le0) h16 h64 (by omega) H
    rw [← hY] at hp
    refine RW.cl ?_
    refine ((hp).mono ?_)
    clear hp H
    rintro _ _ ⟨F, p1, le, rfl, hp1, H⟩
    replace le0 := fun b y h => le b y (le0 b y h)
    replace hiv := hiv.le le
    clear le
    iterate 3 refine RW.v ?_
    refine RW.mk H (.row ⟨[.bool false, .bool false, .bool false, .slice none 0 0], 24, false⟩) ?_
    clear H; intro _ b13 _ H
    refine RW.mk H (.row ⟨[.int .i64 0, .int .i64 0], 33, false⟩) ?_
    clear H; intro _ b14 _ H
    refine RW.stL H 1 (vs := [.bool Y.1.w, .bool Y.1.e, .bool Y.1.h, p1]) (cs' := [.bool Y.1.w, .bool Y.1.e, .bool Y.1.h, p1]) (by kernel_rfl) (by kernel_rfl) rfl rfl rfl (by rcases slf_forms hp1 with rfl | ⟨_, rfl⟩ | ⟨_, _, _, _, _, rfl⟩ <;> rfl) (by rcases slf_forms hp1 with rfl | ⟨_, rfl⟩ | ⟨_, _, _, _, _, rfl⟩ <;> rfl) (by kernel_rfl) (Nat.le_of_ble_eq_true rfl) rfl (by kernel_rfl) ?_
    clear H; intro _ _ H; dsimp only [setL, delL] at H
    refine RW.st H 0 [.int .i64 Y.2.1, .int .i64 Y.2.2] [.int .i64 Y.2.1, .int .i64 Y.2.2] ?_
    clear H; intro _ _ H; dsimp only [setL, delL] at H
    refine RW.nil ?_
    refine W.rg [(0, .string ⟨s.toArray⟩), (2, .int .i64 cd), (5, .pointer (some ⟨b1, 0, none⟩)), (7, .pointer (some ⟨b2, 0, none⟩)), (10, .pointer (some ⟨b12, 0, none⟩)), (11, .pointer (some ⟨b13, 0, none⟩)), (12, .pointer (some ⟨b14, 0, none⟩))] fun TA => ?_
    refine W.seq (W.region ?_)
    refine RW.v ?_
    have hp := rparse_wc (s := s) (by omega) H
    rw [← hY] at hp
    refine RW.cl ?_
    refine ((hp).mono ?_)
    clear hp H
    rintro _ _ ⟨F, p2, le, rfl, hp2, H⟩
    replace le0 := fun b y h => le b y (le0 b y h)
    replace hiv := hiv.le le
    replace hp1 := hp1.le le
    clear le
    iterate 3 refine RW.v ?_
    refine RW.mk H (.row ⟨[.bool false, .bool false, .bool false, .slice none 0 0], 24, false⟩) ?_
    clear H; intro _ b15 _ H
    refine RW.mk H (.row ⟨[.int .i64 0, .int .i64 0], 33, false⟩) ?_
    clear H; intro _ b16 _ H
    refine RW.stL H 1 (vs := [.bool Y.1.w, .bool Y.1.e, .bool Y.1.h, p2]) (cs' := [.bool Y.1.w, .bool Y.1.e, .bool Y.1.h, p2]) (by kernel_rfl) (by kernel_rfl) rfl rfl rfl (by rcases slf_forms hp2 with rfl | ⟨_, rfl⟩ | ⟨_, _, _, _, _, rfl⟩ <;> rfl) (by rcases slf_forms hp2 with rfl | ⟨_, rfl⟩ | ⟨_, _, _, _, _, rfl⟩ <;> rfl) (by kernel_rfl) (Nat.le_of_ble_eq_true rfl) rfl (by kernel_rfl) ?_
    clear H; intro _ _ H; dsimp only [setL, delL] at H
    refine RW.st H 0 [.int .i64 Y.2.1, .int .i64 Y.2.2] [.int .i64 Y.2.1, .int .i64 Y.2.2] ?_
    clear H; intro _ _ H; dsimp only [setL, delL] at H
    refine RW.nil ?_
    refine W.rg [(2, .int .i64 cd), (5, .pointer (some ⟨b1, 0, none⟩)), (7, .pointer (some ⟨b2, 0, none⟩)), (10, .pointer (some ⟨b12, 0, none⟩)), (11, .pointer (some ⟨b13, 0, none⟩)), (12, .pointer (some ⟨b14, 0, none⟩)), (13, .pointer (some ⟨b15, 0, none⟩)), (14, .pointer (some ⟨b16, 0, none⟩))] fun TA => ?_
    refine W.seq (W.region ?_)
    refine RW.ld H 4 4 ?_
    have hp := text_wc (xw := xw) (xe := xe) (xh := xh) (hU.le le0) h16 h64 hiv hll hpr H
    rw [← hV] at hp
    refine RW.cl ?_
    refine ((hp).mono ?_)
    clear hp H
    rintro _ _ ⟨rfl, H⟩
    iterate 5 refine RW.v ?_
    refine RW.nil ?_
    refine W.rg [(2, .int .i64 cd), (5, .pointer (some ⟨b1, 0, none⟩)), (7, .pointer (some ⟨b2, 0, none⟩)), (10, .pointer (some ⟨b12, 0, none⟩)), (11, .pointer (some ⟨b13, 0, none⟩)), (12, .pointer (some ⟨b14, 0, none⟩)), (13, .pointer (some ⟨b15, 0, none⟩)), (14, .pointer (some ⟨b16, 0, none⟩)), (15, .string ⟨V.1.toArray⟩), (16, .int .i64 V.2)] fun TA => ?_
    refine W.seq (W.region ?_)
    refine RW.ld H 6 4 ?_
    have hp := rtextM_wc (xw := xw) (xe := xe) (xh := xh) (hx.le le0) hll hpr H
    rw [← hV] at hp
    refine RW.cl ?_
    refine ((hp).mono ?_)
    clear hp H
    rintro _ _ ⟨rfl, H⟩
    iterate 5 refine RW.v ?_
    refine RW.nil ?_
    refine W.rg [(2, .int .i64 cd), (5, .pointer (some ⟨b1, 0, none⟩)), (7, .pointer (some ⟨b2, 0, none⟩)), (10, .pointer (some ⟨b12, 0, none⟩)), (11, .pointer (some ⟨b13, 0, none⟩)), (12, .pointer (some ⟨b14, 0, none⟩)), (13, .pointer (some ⟨b15, 0, none⟩)), (14, .pointer (some ⟨b16, 0, none⟩)), (15, .string ⟨V.1.toArray⟩), (16, .int .i64 V.2), (17, .string ⟨V.1.toArray⟩), (18, .int .i64 V.2)] fun TA => ?_
    refine W.seq ?_
    refine W.seq (W.region ?_)
    refine RW.ld H 3 4 ?_
    refine RW.ld H 1 4 ?_
    refine RW.cl ?_
    refine ((speceq_wc hp1 hp2 (hYl (by omega)) H).mono ?_)
    clear H
    rintro _ _ ⟨rfl, H⟩
    iterate 2 refine RW.v ?_
    refine RW.ldL H 2 2 (by rfl) (by kernel_rfl) rfl rfl rfl rfl rfl (by kernel_rfl) ?_
    refine RW.ldL H 0 2 (by rfl) (by kernel_rfl) rfl rfl rfl rfl rfl (by kernel_rfl) ?_
    refine RW.vop (v := .bool false) (by rfl) (by kernel_rfl) (vop_eqS (b := true) (r := false) rfl (.inr ⟨rfl, rfl⟩) rfl rfl rfl rfl (by kernel_rfl) (fun w => eqFa _ _ w)) (by kernel_rfl) ?_
    iterate 2 refine RW.v ?_
    iterate 2 refine RW.w ?_
    refine RW.vop (v := .bool false) (by rfl) (by kernel_rfl) (vop_sNe rfl rfl rfl (by simp)) (by kernel_rfl) ?_
    iterate 2 refine RW.v ?_
    iterate 2 refine RW.w ?_
    refine RW.valE (v' := .bool false) (by rfl) (by kernel_rfl) rfl (congrArg Value.bool (bne_eq_false_iff_eq.2 (by rfl))) (by kernel_rfl) ?_
    iterate 2 refine RW.v ?_
    refine RW.ldL H 4 4 (by rfl) (by kernel_rfl) rfl rfl rfl rfl rfl (by kernel_rfl) ?_
    refine RW.ldL H 6 4 (by rfl) (by kernel_rfl) rfl rfl rfl rfl rfl (by kernel_rfl) ?_
    refine RW.cl (hw := by rfl) ?_
    refine ((speceq_wc hiv (hx.le le0) (by omega) H).mono ?_)
    clear H
    rintro _ _ ⟨rfl, H⟩
    refine RW.w ?_
    refine RW.v ?_
    refine RW.nil ?_
    replace H := ((((H.del 3).del 2).del 1).del 0)
    dsimp only [setL, delL] at H
    refine W.c0 ?_
    refine W.skip ?_
    refine W.seq ?_
    refine W.drawn (by kernel_rfl) (by kernel_rfl) H.gn ?_
    have H17 := H
    refine RW.ld H17 0 4 ?_
    refine RW.cl ?_
    refine ((many_wc hiv hll H17).mono ?_)
    rintro _ _ ⟨rfl, H18⟩
    refine RW.ld H18 2 4 ?_
    refine RW.cl ?_
    refine ((rmany_wc (hx.le le0) hll H18).mono ?_)
    rintro _ _ ⟨rfl, H19⟩
    refine RW.valE (v' := .bool true) (by kernel_rfl) (by kernel_rfl) rfl (congrArg Value.bool (beq_iff_eq.2 (by rfl))) (by kernel_rfl) ?_
    refine RW.v ?_
    refine RW.w ?_
    refine RW.ldL H19 1 3 (by rfl) (by kernel_rfl) rfl rfl rfl rfl rfl (by kernel_rfl) ?_
    have hp := asks_wc (c := cd) (a := pa) (b := pb) (cl := pc) H19
    rw [← hK] at hp
    refine RW.cl (hw := by rfl) ?_
    refine ((hp).mono ?_)
    clear hp
    rintro _ _ ⟨rfl, H20⟩
    refine RW.w ?_
    refine RW.ldL H20 1 3 (by rfl) (by kernel_rfl) rfl rfl rfl rfl rfl (by kernel_rfl) ?_
    have hp := rasks_wc (c := cd) (a := pa) (b := pb) (cl := pc) H20
    rw [← hK] at hp
    refine RW.cl (hw := by rfl) ?_
    refine ((hp).mono ?_)
    clear hp
    rintro _ _ ⟨rfl, H21⟩
    refine RW.valE (v' := .bool true) (by rfl) (by kernel_rfl) rfl (by cases K <;> rfl) (by kernel_rfl) ?_
    iterate 2 refine RW.v ?_
    refine RW.cl (hw := by rfl) ?_
    refine ((codes_wc H21).mono ?_)
    rintro _ _ ⟨rfl, H22⟩
    refine RW.cl (hw := by rfl) ?_
    refine ((rcodes_wc H22).mono ?_)
    rintro _ _ ⟨rfl, H23⟩
    refine RW.valE (v' := .bool true) (by rfl) (by kernel_rfl) rfl (by kernel_rfl) (by kernel_rfl) ?_
    iterate 2 refine RW.v ?_
    refine RW.cl (hw := by rfl) ?_
    refine ⟨_, _, (CK _ fun b y h => H23.old _ _ (le0 b y h)), ?_⟩
    have H24 := H23
    iterate 2 refine RW.v ?_
    refine RW.nil ?_
    refine ⟨⟨by kernel_rfl, ⟨dyn_row (H17.get 0 rfl) (H24.get 0 rfl) ⟨nB, fun _ => H17.get 0 rfl, nB, fun _ => H18.get 0 rfl, nB, nB, nB, nB, fun _ => H19.get 0 rfl, nB, nB, fun _ => H20.get 0 rfl, nB, nB, nB, fun _ => H21.get 0 rfl, fun _ => H22.get 0 rfl, nB, nB, nB, fun _ => H23.get 0 rfl, nB, nB, trivial⟩, trivial, dyn_row (H18.get 2 rfl) (H24.get 2 rfl) ⟨nB, fun _ => H17.get 2 rfl, nB, fun _ => H18.get 2 rfl, nB, nB, nB, nB, fun _ => H19.get 2 rfl, nB, nB, fun _ => H20.get 2 rfl, nB, nB, nB, fun _ => H21.get 2 rfl, fun _ => H22.get 2 rfl, nB, nB, nB, fun _ => H23.get 2 rfl, nB, nB, trivial⟩, trivial, trivial, trivial, trivial, dyn_row (H19.get 1 rfl) (H24.get 1 rfl) ⟨nB, fun _ => H17.get 1 rfl, nB, fun _ => H18.get 1 rfl, nB, nB, nB, nB, fun _ => H19.get 1 rfl, nB, nB, fun _ => H20.get 1 rfl, nB, nB, nB, fun _ => H21.get 1 rfl, fun _ => H22.get 1 rfl, nB, nB, nB, fun _ => H23.get 1 rfl, nB, nB, trivial⟩, trivial, trivial, dyn_row (H20.get 1 rfl) (H24.get 1 rfl) ⟨nB, fun _ => H17.get 1 rfl, nB, fun _ => H18.get 1 rfl, nB, nB, nB, nB, fun _ => H19.get 1 rfl, nB, nB, fun _ => H20.get 1 rfl, nB, nB, nB, fun _ => H21.get 1 rfl, fun _ => H22.get 1 rfl, nB, nB, nB, fun _ => H23.get 1 rfl, nB, nB, trivial⟩, trivial, trivial, trivial, trivial, trivial, trivial, trivial, trivial, trivial, trivial, trivial, trivial, trivial⟩⟩, ?_⟩
    replace H := H24
    clear H17 H18 H19 H20 H21 H22 H23 H24
    replace H := (((H.del 2).del 1).del 0)
    dsimp only [setL, delL] at H
    refine W.ret ?_
    refine endG (by rfl) (by exact resL_tmp rfl) ?_
    exact rfl
end Go.Proofs.YthemeeiedlbhkaaDoor
