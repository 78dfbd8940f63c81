/-
 The reference: Partial, TryPartial. Conditions: none.
 The word around an index. Conditions: the tables of unicode/utf8 lie.
 CompleteWords in the second memory. Conditions: none.
-/
import Derived.Test.YtjcmdifpkafdkaaDoorC6
import Derived.Test.YtjcmdifpkafdkaaDoorC7
import Derived.Test.YtjcmdifpkafdkaaDoorC5
import Derived.Test.YtjcmdifpkafdkaaDoorC3
namespace Go.Proofs.YtjcmdifpkafdkaaDoor
open Go.Lib
set_option maxRecDepth 100000
open Go.RowKit
theorem partC_valid {fold : Bool} {l : List (List UInt8)} {s : List UInt8} (h : partC fold l s ≠ []) : validD s = true := by
 unfold partC at h
 by_cases hv : validD s = true
 ·exact hv
 ·exact absurd (if_neg hv) h
section
variable {G : Nat} {A : Abs} {σ : Mem} {F : Nat → Option Blk2} {L : List Ent} {fold : Bool} {l : List (List UInt8)} {s : List UInt8} {v1 : Value}
set_option maxHeartbeats 8000000 in
theorem r_partial (h1 : SlF F 1 v1 l.length (l.map strV)) (hl : l.length ≤ 1000000) (hsm : ∀ s ∈ l, s.length ≤ 60000) (hs : s.length ≤ 60000) (H : Lies G A F σ L) : WC G Tryd.prog 19 #[v1, .string ⟨s.toArray⟩, .bool fold] σ fun v σ' => ∃ F', Le F F' ∧ SlF F' 1 v (partC fold l s).length ((partC fold l s).map strV) ∧ Lies G A F' σ' L := by
 obtain ⟨F0, hF⟩ : ∃ F0, F0 = F := ⟨_, rfl⟩
 have le0 : Le F0 F := fun b y h => hF ▸ h
 rw [← hF] at h1 ⊢
 have hsmM : ∀ x ∈ l, x.length ≤ 1000000 := fun x hx => Nat.le_trans (hsm x hx) (by decide)
 refine WC.enter (fn := Tryd.f19) Tryd.func19 rfl ?_
 refine W.rg [(0, v1), (1, .string ⟨s.toArray⟩), (2, .bool fold)] fun TA => ?_
 refine W.seq (W.region ?_)
 refine RW.v ?_
 refine RW.nil ?_
 refine W.rg [(0, v1), (1, .string ⟨s.toArray⟩), (2, .bool fold)] fun TA => ?_
 refine W.seq (W.region ?_)
 refine RW.v ?_
 refine RW.nil ?_
 refine W.rg [(0, v1), (1, .string ⟨s.toArray⟩), (2, .bool fold), (7, .slice none 0 0)] fun TA => ?_
 refine W.seq ?_
 refine W.seq (W.region ?_)
 refine RW.v ?_
 refine RW.cl ?_
 refine ⟨_, _, (s_rvalid (Nat.le_trans hs (by decide))), ?_⟩
 refine RW.v ?_
 refine RW.nil ?_
 refine W.rg [(0, v1), (1, .string ⟨s.toArray⟩), (2, .bool fold), (7, .slice none 0 0), (14, .bool (!(validD s)))] fun TA => ?_
 refine W.cond rfl (fun hc1 => ?_) (fun hc1 => ?_)
 ·have hc1b := hc1
  have hvs : validD s = false := by simpa using hc1b
  refine W.seq (W.region ?_)
  iterate 2 refine RW.v ?_
  refine RW.nil ?_
  refine W.ret ?_
  refine seqQ_ret ?_
  refine endG (by rfl) (by exact resL_tmp rfl) ?_
  have ea : partC fold l s = [] := if_neg (by rw [hvs]; exact Bool.false_ne_true)
  rw [ea]
  exact ⟨F, le0, .nil _ rfl, H⟩
 ·have hc1b := hc1
  have hvs : validD s = true := by simpa using hc1b
  refine W.skip ?_
  refine W.seq (W.region ?_)
  refine RW.v ?_
  refine RW.cl ?_
  refine ((r_candidates (h1.le le0) hl hsmM H).mono ?_)
  clear H
  rintro du _ ⟨F, le, hcd, H⟩
  replace le0 := fun b y h => le b y (le0 b y h)
  obtain ⟨D, hD⟩ : ∃ D, D = distM l := ⟨_, rfl⟩
  rw [← hD] at hcd
  have hDl : D.length ≤ 1000000 := by rw [hD]; exact Nat.le_trans (distG_len l []) hl
  have hDm : ∀ x ∈ D, validD x = true ∧ x ∈ l := fun x hx => by rw [hD] at hx; have := distM_mem.1 hx; exact ⟨this.2, this.1⟩
  obtain ⟨FB, hFB⟩ : ∃ FB, FB = F := ⟨_, rfl⟩
  rw [← hFB] at hcd
  have leB : Le FB F := fun b y h => hFB ▸ h
  obtain ⟨T, hTd⟩ : ∃ T, T = partC fold l s := ⟨_, rfl⟩
  have hT0 : T = [] ++ (D.drop 0).filter (fun c => (matchC fold (runes c) (runes s)).isSome) := by rw [hTd, hD]; exact if_pos hvs
  refine RW.v ?_
  refine RW.nil ?_
  refine W.rg [(1, .string ⟨s.toArray⟩), (2, .bool fold), (7, .slice none 0 0), (8, du)] fun TA => ?_
  refine W.seq ?_
  refine W.seq (W.region ?_)
  refine RW.v ?_
  refine RW.nil ?_
  refine W.rg [(1, .string ⟨s.toArray⟩), (2, .bool fold), (7, .slice none 0 0), (8, du), (9, .int .i64 0)] fun TA => ?_
  refine W.block ?_
  replace H := H.nilSl 9 1
  refine W.loop (fun mm ta σ => ∃ (i : Nat) (acc : List (List UInt8)) (u : Value), (mm + i = D.length) ∧ (acc.length ≤ i) ∧ (T = acc ++ (D.drop i).filter (fun c => (matchC fold (runes c) (runes s)).isSome)) ∧ Lies G A F σ (.sl 9 1 u acc.length (acc.map strV) :: (L)) ∧ ta 1 = .string ⟨s.toArray⟩ ∧ ta 2 = .bool fold ∧ ta 7 = u ∧ ta 8 = du ∧ ta 9 = .int .i64 ((i : Nat) : Int)) D.length ?_ ?_
  ·exact ⟨0, [], .slice none 0 0, (by omega), (Nat.zero_le _), hT0, H, rfl, rfl, rfl, rfl, rfl⟩
  clear H
  rintro mm ta _ ⟨i, acc, u, hm, hac, hT, H, e1, e2, e7, e8, e9⟩
  refine W.rst [(1, .string ⟨s.toArray⟩), (2, .bool fold), (7, u), (8, du), (9, .int .i64 ((i : Nat) : Int))] ⟨e1, e2, e7, e8, e9, trivial⟩ fun TA => ?_
  clear e1 e2 e7 e8 e9
  have leB : Le FB F := fun b y h => hFB ▸ h
  refine W.seq ?_
  refine W.seq (W.region ?_)
  iterate 2 refine RW.v ?_
  refine RW.len (by kernel_rfl) (by kernel_rfl) rfl rfl rfl rfl ((hcd.le leB).len (e := 9) (by kernel_rfl)) (by kernel_rfl) ?_
  refine RW.v ?_
  refine RW.nil ?_
  refine W.rg [(1, .string ⟨s.toArray⟩), (2, .bool fold), (7, u), (8, du), (9, .int .i64 ((i : Nat) : Int)), (21, .bool (decide (((i : Nat) : Int) < (D.length : Int))))] fun TA => ?_
  refine W.cond rfl (fun hc2 => ?_) (fun hc2 => ?_)
  ·have hc2b := hc2
   have hc2 := of_decide_eq_true hc2
   have hil : i < D.length := by omega
   have hXd := hDm _ (mem_of (l := D) (j := i) hil)
   refine W.skip ?_
   refine W.seq ?_
   refine W.block ?_
   refine W.seq (W.region ?_)
   iterate 2 refine RW.v ?_
   refine RW.idxF (hcd.le leB) (by kernel_rfl) (by kernel_rfl) rfl Tryd.underlying22 (by kernel_rfl) rfl rfl ⟨by omega, by omega⟩ (by kernel_rfl) ?_
   intro b3 q4 r5 hF6 hE7
   rw [strs_at (l := D) (j := i) (i := ((i : Nat) : Int)) (by omega) (by omega)] at hE7
   refine RW.loads 1 (by kernel_rfl) (by kernel_rfl) rfl rfl (H.old _ _ hF6) hE7 rfl (by kernel_rfl) ?_
   refine RW.cl ?_
   refine ((r_chars (hsmM _ hXd.2) H).mono ?_)
   clear H
   rintro cu8 _ ⟨F, _, le, rfl, hu9, H⟩
   replace leB := fun b y h => le b y (leB b y h)
   rw [chars_yes hXd.1] at hu9
   refine RW.v ?_
   refine RW.cl ?_
   refine ((r_chars (Nat.le_trans hs (by decide)) H).mono ?_)
   clear H
   rintro cu10 _ ⟨F, _, le, rfl, hu11, H⟩
   replace leB := fun b y h => le b y (leB b y h)
   replace hu9 := hu9.le le
   rw [chars_yes hvs] at hu11
   refine RW.v ?_
   refine RW.cl ?_
   refine ((r_words (fold := fold) hu9 hu11 (Nat.le_trans (runes_le _) (hsm _ hXd.2)) (Nat.le_trans (runes_le _) hs) H).mono ?_)
   clear H
   rintro _ _ ⟨F, wu, wcs, le, rfl, hwu, alw, H⟩
   replace leB := fun b y h => le b y (leB b y h)
   replace hu9 := hu9.le le
   replace hu11 := hu11.le le
   iterate 5 refine RW.v ?_
   refine RW.nil ?_
   refine W.rg [(1, .string ⟨s.toArray⟩), (2, .bool fold), (7, u), (8, du), (9, .int .i64 ((i : Nat) : Int)), (11, .bool ((matchC fold (runes (D.getD i [])) (runes s)).isSome))] fun TA => ?_
   refine W.seq (W.region ?_)
   refine RW.v ?_
   refine RW.nil ?_
   refine W.rg [(1, .string ⟨s.toArray⟩), (2, .bool fold), (7, u), (8, du), (9, .int .i64 ((i : Nat) : Int)), (36, .bool ((matchC fold (runes (D.getD i [])) (runes s)).isSome))] fun TA => ?_
   refine W.cond rfl (fun hc12 => ?_) (fun hc12 => ?_)
   ·have hc12b := hc12
    refine W.region ?_
    iterate 3 refine RW.v ?_
    refine RW.idxF (hcd.le leB) (by kernel_rfl) (by kernel_rfl) rfl Tryd.underlying22 (by kernel_rfl) rfl rfl ⟨by omega, by omega⟩ (by kernel_rfl) ?_
    intro b13 q14 r15 hF16 hE17
    rw [strs_at (l := D) (j := i) (i := ((i : Nat) : Int)) (by omega) (by omega)] at hE17
    refine RW.loads 1 (by kernel_rfl) (by kernel_rfl) rfl rfl (H.old _ _ hF16) hE17 rfl (by kernel_rfl) ?_
    refine RW.mkL H (x := .row ⟨[.string ⟨(D.getD i []).toArray⟩], 9, false⟩) (fm := fun b => .slice (some ⟨b, 0, none⟩) 1 1) (by kernel_rfl) (by kernel_rfl) (by kernel_rfl) (by kernel_rfl) ?_
    clear H; intro _ b18 _ H
    refine RW.appL H 1 0 (n := 1) (e2 := 9) (by kernel_rfl) (by kernel_rfl) rfl rfl rfl rfl rfl rfl rfl rfl (by kernel_rfl) (by kernel_rfl) (by kernel_rfl) (by decide) (by decide) rfl rfl (by omega) (by kernel_rfl) ?_
    clear H; intro _ v19 _ H
    dsimp only [setL, delL] at H
    refine RW.v ?_
    refine RW.nil ?_
    refine blkQ_normal ?_
    refine W.rg [(1, .string ⟨s.toArray⟩), (2, .bool fold), (7, v19), (8, du), (9, .int .i64 ((i : Nat) : Int))] fun TA => ?_
    refine W.region ?_
    refine RW.v ?_
    refine RW.valE (v' := .int .i64 (((i : Nat) : Int) + 1)) (by kernel_rfl) (by kernel_rfl) rfl (congrArg (Value.int .i64) (wrap_in (by omega) (by omega))) (by kernel_rfl) ?_
    refine RW.v ?_
    refine RW.nil ?_
    replace H := H.back leB
    rw [hFB] at H
    rw [acc_snoc (x := (D.getD i []))] at H
    rw [show acc.length + 1 = (acc ++ [(D.getD i [])]).length by rw [List.length_append]; rfl] at H
    exact ⟨rfl, mm - 1, by omega, i + 1, (acc ++ [(D.getD i [])]), v19, (by omega), (by rw [List.length_append, List.length_singleton]; omega), (by rw [hT, dropD (d := []) hil, List.filter_cons_of_pos (p := (fun c => (matchC fold (runes c) (runes s)).isSome)) hc12b, List.append_assoc]; rfl), H, rfl, rfl, rfl, rfl, rfl⟩
   ·have hc12b := hc12
    refine W.skip ?_
    refine blkQ_normal ?_
    refine W.region ?_
    refine RW.v ?_
    refine RW.valE (v' := .int .i64 (((i : Nat) : Int) + 1)) (by kernel_rfl) (by kernel_rfl) rfl (congrArg (Value.int .i64) (wrap_in (by omega) (by omega))) (by kernel_rfl) ?_
    refine RW.v ?_
    refine RW.nil ?_
    replace H := H.back leB
    rw [hFB] at H
    exact ⟨rfl, mm - 1, by omega, i + 1, acc, u, (by omega), (by omega), (by rw [hT, dropD (d := []) hil, List.filter_cons_of_neg (p := (fun c => (matchC fold (runes c) (runes s)).isSome)) (by rw [hc12b]; exact Bool.false_ne_true)]), H, rfl, rfl, rfl, rfl, rfl⟩
  ·have hc2b := hc2
   have hc2 := of_decide_eq_false hc2
   refine W.exit _ ?_
   refine seqQ_exit ?_
   refine rndQ_exit ?_
   refine blkQ_here ?_
   refine W.seq (W.region ?_)
   iterate 2 refine RW.v ?_
   refine RW.nil ?_
   refine W.ret ?_
   refine endG (by rfl) (by exact resL_tmp rfl) ?_
   have hR : T = acc := by rw [hT, List.drop_eq_nil_of_le (by omega)]; exact List.append_nil _
   rw [← hTd, hR]
   obtain ⟨F', le, hv, H⟩ := H.freezeSl 0 rfl
   dsimp only [setL, delL] at H
   exact ⟨F', fun b y h => le b y (le0 b y h), hv, H⟩
set_option maxHeartbeats 16000000 in
theorem r_tryp (h1 : SlF F 1 v1 l.length (l.map strV)) (hl : l.length ≤ 1000000) (hsm : ∀ s ∈ l, s.length ≤ 60) (hs : s.length ≤ 60) (H : Lies G A F σ L) : WC G Tryd.prog 14 #[v1, .string ⟨s.toArray⟩, .bool fold] σ fun v σ' => v = .tuple #[.string ⟨(tryP fold l s).toArray⟩, .int .i64 (statusC fold (partC fold l s) s)] ∧ Lies G A F σ' L := by
 obtain ⟨F0, hF⟩ : ∃ F0, F0 = F := ⟨_, rfl⟩
 have le0 : Le F0 F := fun b y h => hF ▸ h
 rw [← hF] at h1 ⊢
 refine WC.enter (fn := Tryd.f14) Tryd.func14 rfl ?_
 refine W.rg [(0, v1), (1, .string ⟨s.toArray⟩), (2, .bool fold)] fun TA => ?_
 refine W.seq (W.region ?_)
 iterate 2 refine RW.v ?_
 refine RW.nil ?_
 refine W.rg [(0, v1), (1, .string ⟨s.toArray⟩), (2, .bool fold)] fun TA => ?_
 refine W.seq (W.region ?_)
 iterate 3 refine RW.v ?_
 refine RW.cl ?_
 refine ((r_partial (fold := fold) (h1.le le0) hl (fun x hx => Nat.le_trans (hsm x hx) (by decide)) (Nat.le_trans hs (by decide)) H).mono ?_)
 clear H
 rintro mv _ ⟨F, le, hmv, H⟩
 replace le0 := fun b y h => le b y (le0 b y h)
 obtain ⟨m, hm⟩ : ∃ m, m = partC fold l s := ⟨_, rfl⟩
 rw [← hm] at hmv ⊢
 have hml : m.length ≤ 1000000 := by rw [hm]; exact Nat.le_trans partC_len hl
 have hmg : ∀ x ∈ m, (validD x = true ∧ x ∈ l) ∧ (matchC fold (runes x) (runes s)).isSome = true := by rw [hm]; exact partC_good.1
 have hmm : ∀ x ∈ m, x.length ≤ 60 := fun x hx => hsm x (hmg x hx).1.2
 have hdm : distM m = m := distM_self (fun x hx => (hmg x hx).1.1) (by rw [hm]; exact partC_good.2)
 have hvm : m ≠ [] → validD s = true := fun h => by rw [hm] at h; exact partC_valid h
 refine RW.v ?_
 refine RW.nil ?_
 refine W.rg [(1, .string ⟨s.toArray⟩), (2, .bool fold), (8, mv)] fun TA => ?_
 refine W.seq ?_
 refine W.seq (W.region ?_)
 refine RW.v ?_
 refine RW.len (by kernel_rfl) (by kernel_rfl) rfl rfl rfl rfl (hmv.len (e := 9) (by kernel_rfl)) (by kernel_rfl) ?_
 refine RW.v ?_
 refine RW.nil ?_
 refine W.rg [(1, .string ⟨s.toArray⟩), (2, .bool fold), (8, mv), (23, .bool ((m.length : Int) == 0))] fun TA => ?_
 refine W.cond rfl (fun hc1 => ?_) (fun hc1 => ?_)
 ·have hc1b := hc1
  have hc1 := eq_of_beq hc1
  have hm0 : m = [] := List.eq_nil_of_length_eq_zero (by omega)
  refine W.seq (W.region ?_)
  iterate 3 refine RW.v ?_
  refine RW.cl ?_
  refine ((r_status (fold := fold) hmv hml (fun x hx => Nat.le_trans (hmm x hx) (by decide)) (Nat.le_trans hs (by decide)) hdm hvm H).mono ?_)
  clear H
  rintro _ _ ⟨rfl, H⟩
  iterate 2 refine RW.v ?_
  refine RW.nil ?_
  refine W.ret ?_
  refine seqQ_ret ?_
  refine endG (by rfl) (by exact resL_tmp (by exact resL_tmp rfl)) ?_
  rw [show tryP fold l s = [] by unfold tryP; rw [← hm, if_pos hm0]]
  exact ⟨rfl, (H).back le0⟩
 ·have hc1b := hc1
  have hc1 := ne_of_beq_false hc1
  have hmpos : 0 < m.length := by omega
  have hvs : validD s = true := hvm (List.length_pos_iff.1 hmpos)
  refine W.skip ?_
  refine W.seq (W.region ?_)
  refine RW.v ?_
  refine RW.cl ?_
  refine ((r_chars (Nat.le_trans hs (by decide)) H).mono ?_)
  clear H
  rintro cu2 _ ⟨F, _, le, rfl, hu3, H⟩
  replace le0 := fun b y h => le b y (le0 b y h)
  replace hmv := hmv.le le
  rw [chars_yes hvs] at hu3
  refine RW.cl ?_
  refine ((r_parts hu3 (Nat.le_trans (runes_le _) (Nat.le_trans hs (by decide))) H).mono ?_)
  clear H
  rintro _ _ ⟨F, u, um, wsl, le, rfl, hu, al, hum, H⟩
  replace le0 := fun b y h => le b y (le0 b y h)
  replace hmv := hmv.le le
  replace hu3 := hu3.le le
  obtain ⟨ws, hws⟩ : ∃ ws, ws = (partsC (runes s)).1 := ⟨_, rfl⟩
  obtain ⟨ms, hms⟩ : ∃ ms, ms = (partsC (runes s)).2 := ⟨_, rfl⟩
  rw [← hws] at hu al
  rw [← hms] at hum
  have hwm : ws.length = ms.length + 1 := by rw [hws, hms]; exact partsG_len _ _
  have hmr : ms.length ≤ 60 := by rw [hms]; exact Nat.le_trans (partsG_small _ _) (Nat.le_trans (runes_le _) hs)
  obtain ⟨F1, hF1⟩ : ∃ F1, F1 = F := ⟨_, rfl⟩
  have le1 : Le F1 F := fun b y h => hF1 ▸ h
  have le01 : Le F0 F1 := by rw [hF1]; exact le0
  rw [← hF1] at hu al hum hmv
  clear hF1 le0
  iterate 5 refine RW.v ?_
  refine RW.nil ?_
  refine W.rg [(1, .string ⟨s.toArray⟩), (2, .bool fold), (8, mv), (9, u), (10, um)] fun TA => ?_
  refine W.seq (W.region ?_)
  refine RW.v ?_
  refine RW.nil ?_
  refine W.rg [(1, .string ⟨s.toArray⟩), (2, .bool fold), (8, mv), (9, u), (10, um), (11, .slice none 0 0)] fun TA => ?_
  refine W.seq ?_
  refine W.seq (W.region ?_)
  refine RW.v ?_
  refine RW.nil ?_
  refine W.rg [(1, .string ⟨s.toArray⟩), (2, .bool fold), (8, mv), (9, u), (10, um), (11, .slice none 0 0), (12, .int .i64 0)] fun TA => ?_
  refine W.block ?_
  replace H := H.nilSl 3 1
  refine W.loop (fun mm ta σ => ∃ (i : Nat) (F : Nat → Option Blk2) (v : Value) (out : List Int), (mm + i = ws.length) ∧ (Le F1 F) ∧ (out.length ≤ i * 61) ∧ (joinC fold m s ws.length 0 = out ++ joinC fold m s (ws.length - i) i) ∧ Lies G A F σ (.sl 3 1 v out.length (out.map (Value.int .i64)) :: (L)) ∧ ta 1 = .string ⟨s.toArray⟩ ∧ ta 2 = .bool fold ∧ ta 8 = mv ∧ ta 9 = u ∧ ta 10 = um ∧ ta 11 = v ∧ ta 12 = .int .i64 ((i : Nat) : Int)) ws.length ?_ ?_
  ·exact ⟨0, F, .slice none 0 0, [], (by omega), le1, (Nat.zero_le _), rfl, H, rfl, rfl, rfl, rfl, rfl, rfl, rfl⟩
  clear H
  rintro mm ta _ ⟨i, F, v, out, hmi, le1, hol, hT, H, e1, e2, e8, e9, e10, e11, e12⟩
  refine W.rst [(1, .string ⟨s.toArray⟩), (2, .bool fold), (8, mv), (9, u), (10, um), (11, v), (12, .int .i64 ((i : Nat) : Int))] ⟨e1, e2, e8, e9, e10, e11, e12, trivial⟩ fun TA => ?_
  clear e1 e2 e8 e9 e10 e11 e12
  refine W.seq ?_
  refine W.seq (W.region ?_)
  iterate 2 refine RW.v ?_
  refine RW.len (by kernel_rfl) (by kernel_rfl) rfl rfl rfl rfl ((hu.le le1).slf.len (e := 59) (by kernel_rfl)) (by kernel_rfl) ?_
  refine RW.v ?_
  refine RW.nil ?_
  refine W.rg [(1, .string ⟨s.toArray⟩), (2, .bool fold), (8, mv), (9, u), (10, um), (11, v), (12, .int .i64 ((i : Nat) : Int)), (37, .bool (decide (((i : Nat) : Int) < (ws.length : Int))))] fun TA => ?_
  refine W.cond rfl (fun hc4 => ?_) (fun hc4 => ?_)
  ·have hc4b := hc4
   have hc4 := of_decide_eq_true hc4
   have hiw : i < ws.length := by omega
   refine W.skip ?_
   refine W.seq ?_
   refine W.block ?_
   refine W.seq (W.region ?_)
   refine RW.v ?_
   refine RW.nil ?_
   refine W.rg [(1, .string ⟨s.toArray⟩), (2, .bool fold), (8, mv), (9, u), (10, um), (11, v), (12, .int .i64 ((i : Nat) : Int)), (13, .slice none 0 0)] fun TA => ?_
   refine W.seq ?_
   refine W.seq (W.region ?_)
   refine RW.v ?_
   refine RW.nil ?_
   refine W.rg [(1, .string ⟨s.toArray⟩), (2, .bool fold), (8, mv), (9, u), (10, um), (11, v), (12, .int .i64 ((i : Nat) : Int)), (13, .slice none 0 0), (14, .int .i64 0)] fun TA => ?_
   refine W.block ?_
   replace H := H.nilSl 59 1
   refine W.loop (fun mm2 ta σ => ∃ (k : Nat) (F : Nat → Option Blk2) (ca : List Value) (ua : Value), (mm2 + k = m.length) ∧ (Le F1 F) ∧ (AllI F ca (pieceC fold (m.take k) s i)) ∧ Lies G A F σ (.sl 59 1 ua k ca :: .sl 3 1 v out.length (out.map (Value.int .i64)) :: (L)) ∧ ta 1 = .string ⟨s.toArray⟩ ∧ ta 2 = .bool fold ∧ ta 8 = mv ∧ ta 9 = u ∧ ta 10 = um ∧ ta 11 = v ∧ ta 12 = .int .i64 ((i : Nat) : Int) ∧ ta 13 = ua ∧ ta 14 = .int .i64 ((k : Nat) : Int)) m.length ?_ ?_
   ·exact ⟨0, F, [], .slice none 0 0, (by omega), le1, AllI.nil, H, rfl, rfl, rfl, rfl, rfl, rfl, rfl, rfl, rfl⟩
   clear H
   rintro mm2 ta _ ⟨k, F, ca, ua, hm2, le1, alp, H, e1, e2, e8, e9, e10, e11, e12, e13, e14⟩
   refine W.rst [(1, .string ⟨s.toArray⟩), (2, .bool fold), (8, mv), (9, u), (10, um), (11, v), (12, .int .i64 ((i : Nat) : Int)), (13, ua), (14, .int .i64 ((k : Nat) : Int))] ⟨e1, e2, e8, e9, e10, e11, e12, e13, e14, trivial⟩ fun TA => ?_
   clear e1 e2 e8 e9 e10 e11 e12 e13 e14
   refine W.seq ?_
   refine W.seq (W.region ?_)
   iterate 2 refine RW.v ?_
   refine RW.len (by kernel_rfl) (by kernel_rfl) rfl rfl rfl rfl ((hmv.le le1).len (e := 9) (by kernel_rfl)) (by kernel_rfl) ?_
   refine RW.v ?_
   refine RW.nil ?_
   refine W.rg [(1, .string ⟨s.toArray⟩), (2, .bool fold), (8, mv), (9, u), (10, um), (11, v), (12, .int .i64 ((i : Nat) : Int)), (13, ua), (14, .int .i64 ((k : Nat) : Int)), (43, .bool (decide (((k : Nat) : Int) < (m.length : Int))))] fun TA => ?_
   refine W.cond rfl (fun hc5 => ?_) (fun hc5 => ?_)
   ·have hc5b := hc5
    have hc5 := of_decide_eq_true hc5
    have hkm : k < m.length := by omega
    refine W.skip ?_
    refine W.seq ?_
    refine W.block ?_
    refine W.seq (W.region ?_)
    iterate 2 refine RW.v ?_
    refine RW.idxF (hmv.le le1) (by kernel_rfl) (by kernel_rfl) rfl Tryd.underlying22 (by kernel_rfl) rfl rfl ⟨by omega, by omega⟩ (by kernel_rfl) ?_
    intro b6 q7 r8 hF9 hE10
    rw [strs_at (l := m) (j := k) (i := ((k : Nat) : Int)) (by omega) (by omega)] at hE10
    refine RW.loads 1 (by kernel_rfl) (by kernel_rfl) rfl rfl (H.old _ _ hF9) hE10 rfl (by kernel_rfl) ?_
    refine RW.cl ?_
    refine ((r_chars (Nat.le_trans (hmm _ (mem_of hkm)) (by decide)) H).mono ?_)
    clear H
    rintro cu11 _ ⟨F, _, le, rfl, hu12, H⟩
    replace le1 := fun b y h => le b y (le1 b y h)
    replace alp := alp.le le
    rw [chars_yes (hmg _ (mem_of hkm)).1.1] at hu12
    refine RW.v ?_
    refine RW.cl ?_
    refine ((r_chars (Nat.le_trans hs (by decide)) H).mono ?_)
    clear H
    rintro cu13 _ ⟨F, _, le, rfl, hu14, H⟩
    replace le1 := fun b y h => le b y (le1 b y h)
    replace alp := alp.le le
    replace hu12 := hu12.le le
    rw [chars_yes hvs] at hu14
    refine RW.v ?_
    refine RW.cl ?_
    refine ((r_words (fold := fold) hu12 hu14 (Nat.le_trans (runes_le _) (Nat.le_trans (hmm _ (mem_of hkm)) (by decide))) (Nat.le_trans (runes_le _) (Nat.le_trans hs (by decide))) H).mono ?_)
    clear H
    rintro _ _ ⟨F, wu, wcs, le, rfl, hwu, alw, H⟩
    replace le1 := fun b y h => le b y (le1 b y h)
    replace alp := alp.le le
    replace hu12 := hu12.le le
    replace hu14 := hu14.le le
    obtain ⟨r, hr⟩ : ∃ r, r = (matchC fold (runes (m.getD k [])) (runes s)).getD [] := ⟨_, rfl⟩
    rw [← hr] at hwu alw
    have hrw : r.length = ws.length := by rw [hr, hws]; exact piece_len (hmg _ (mem_of hkm)).2
    iterate 5 refine RW.v ?_
    refine RW.nil ?_
    refine W.rg [(1, .string ⟨s.toArray⟩), (2, .bool fold), (8, mv), (9, u), (10, um), (11, v), (12, .int .i64 ((i : Nat) : Int)), (13, ua), (14, .int .i64 ((k : Nat) : Int)), (15, wu)] fun TA => ?_
    refine W.region ?_
    iterate 3 refine RW.v ?_
    refine RW.idxF hwu.slf (by kernel_rfl) (by kernel_rfl) rfl Tryd.underlying58 (by kernel_rfl) rfl rfl ⟨by omega, by omega⟩ (by kernel_rfl) ?_
    intro b15 q16 r17 hF18 hE19
    rw [vals_at (l := wcs) (j := i) (i := ((i : Nat) : Int)) (by omega) (by have := alw.1; omega)] at hE19
    refine RW.loads 1 (by kernel_rfl) (by kernel_rfl) rfl rfl (H.old _ _ hF18) hE19 rfl (by kernel_rfl) ?_
    refine RW.mkL H (x := .row ⟨[(wcs.getD i undef)], 59, false⟩) (fm := fun b => .slice (some ⟨b, 0, none⟩) 1 1) (by kernel_rfl) (by kernel_rfl) (by rcases slf_forms (alw.2 i (by omega)).slf with e0 | ⟨_, e0⟩ | ⟨_, _, _, _, _, e0⟩ <;> rw [e0] <;> kernel_rfl) (by kernel_rfl) ?_
    clear H; intro _ b20 _ H
    refine RW.appL H 1 0 (n := 1) (e2 := 59) (by kernel_rfl) (by kernel_rfl) rfl rfl rfl rfl rfl rfl rfl rfl (by kernel_rfl) (by kernel_rfl) (by kernel_rfl) (by decide) (by decide) rfl (slf_all (alw.2 i (by omega)).slf) (by omega) (by kernel_rfl) ?_
    clear H; intro _ v21 _ H
    dsimp only [setL, delL] at H
    refine RW.v ?_
    refine RW.nil ?_
    refine blkQ_normal ?_
    refine W.rg [(1, .string ⟨s.toArray⟩), (2, .bool fold), (8, mv), (9, u), (10, um), (11, v), (12, .int .i64 ((i : Nat) : Int)), (13, v21), (14, .int .i64 ((k : Nat) : Int))] fun TA => ?_
    refine W.region ?_
    refine RW.v ?_
    refine RW.valE (v' := .int .i64 (((k : Nat) : Int) + 1)) (by kernel_rfl) (by kernel_rfl) rfl (congrArg (Value.int .i64) (wrap_in (by omega) (by omega))) (by kernel_rfl) ?_
    refine RW.v ?_
    refine RW.nil ?_
    exact ⟨rfl, mm2 - 1, by omega, k + 1, F, (ca ++ [(wcs.getD i undef)]), v21, (by omega), le1, (by rw [piece_snoc hkm, ← hr]; exact alp.snoc (alw.2 i (by omega))), H, rfl, rfl, rfl, rfl, rfl, rfl, rfl, rfl, rfl⟩
   ·have hc5b := hc5
    have hc5 := of_decide_eq_false hc5
    refine W.exit _ ?_
    refine seqQ_exit ?_
    refine rndQ_exit ?_
    rw [List.take_of_length_le (show m.length ≤ k by omega)] at alp
    obtain rfl : k = m.length := by omega
    obtain ⟨F, le, hua, H⟩ := H.freezeK 0 rfl
    dsimp only [setL, delL] at H
    replace le1 := fun b y h => le b y (le1 b y h)
    replace alp := alp.le le
    have hpl : (pieceC fold m s i).length = m.length := List.length_map _
    have hua2 : SlK F 1 ua (pieceC fold m s i).length ca := by rw [hpl]; exact hua
    refine blkQ_here ?_
    refine W.seq (W.region ?_)
    iterate 3 refine RW.v ?_
    have hpc : ∀ z ∈ (pieceC fold m s i), z.length ≤ 60 ∧ ∀ c ∈ z, 0 ≤ c ∧ c ≤ 1114111 := piece_in hmm
    have hcl : (comC fold (pieceC fold m s i)).length ≤ 60 := comT_len fun z hz => (hpc z hz).1
    refine RW.cl ?_
    refine ((r_shared (fold := fold) hua2 alp (by omega) (fun z hz => Nat.le_trans (hpc z hz).1 (by decide)) H).mono ?_)
    clear H
    rintro su _ ⟨hsu, H⟩
    refine RW.appF H 0 (e2 := 3) hsu.slf (by kernel_rfl) (by kernel_rfl) rfl rfl rfl rfl rfl rfl rfl (by kernel_rfl) (by kernel_rfl) (by kernel_rfl) (by decide) (intz_ones _) (by omega) (by kernel_rfl) ?_
    clear H; intro _ v22 _ H
    dsimp only [setL, delL] at H
    refine RW.v ?_
    refine RW.nil ?_
    refine W.rg [(1, .string ⟨s.toArray⟩), (2, .bool fold), (8, mv), (9, u), (10, um), (11, v22), (12, .int .i64 ((i : Nat) : Int))] fun TA => ?_
    refine W.seq (W.region ?_)
    iterate 2 refine RW.v ?_
    refine RW.len (by kernel_rfl) (by kernel_rfl) rfl rfl rfl rfl ((hum.le le1).slf.len (e := 3) (by kernel_rfl)) (by kernel_rfl) ?_
    refine RW.v ?_
    refine RW.nil ?_
    refine W.rg [(1, .string ⟨s.toArray⟩), (2, .bool fold), (8, mv), (9, u), (10, um), (11, v22), (12, .int .i64 ((i : Nat) : Int)), (73, .bool (decide (((i : Nat) : Int) < (ms.length : Int))))] fun TA => ?_
    refine W.cond rfl (fun hc23 => ?_) (fun hc23 => ?_)
    ·have hc23b := hc23
     have hc23 := of_decide_eq_true hc23
     refine W.region ?_
     iterate 3 refine RW.v ?_
     refine RW.idxF (hum.le le1).slf (by kernel_rfl) (by kernel_rfl) rfl Tryd.underlying59 (by kernel_rfl) rfl rfl ⟨by omega, by omega⟩ (by kernel_rfl) ?_
     intro b24 q25 r26 hF27 hE28
     rw [intz_at (l := ms) (j := i) (i := ((i : Nat) : Int)) (by omega) (by omega)] at hE28
     refine RW.loads 1 (by kernel_rfl) (by kernel_rfl) rfl rfl (H.old _ _ hF27) hE28 rfl (by kernel_rfl) ?_
     refine RW.mkL H (x := .row ⟨[.int .i64 (ms.getD i 0)], 3, false⟩) (fm := fun b => .slice (some ⟨b, 0, none⟩) 1 1) (by kernel_rfl) (by kernel_rfl) (by kernel_rfl) (by kernel_rfl) ?_
     clear H; intro _ b29 _ H
     refine RW.appL H 1 0 (n := 1) (e2 := 3) (by kernel_rfl) (by kernel_rfl) rfl rfl rfl rfl rfl rfl rfl rfl (by kernel_rfl) (by kernel_rfl) (by kernel_rfl) (by decide) (by decide) rfl rfl (by omega) (by kernel_rfl) ?_
     clear H; intro _ v30 _ H
     dsimp only [setL, delL] at H
     refine RW.v ?_
     refine RW.nil ?_
     refine blkQ_normal ?_
     refine W.rg [(1, .string ⟨s.toArray⟩), (2, .bool fold), (8, mv), (9, u), (10, um), (11, v30), (12, .int .i64 ((i : Nat) : Int))] fun TA => ?_
     refine W.region ?_
     refine RW.v ?_
     refine RW.valE (v' := .int .i64 (((i : Nat) : Int) + 1)) (by kernel_rfl) (by kernel_rfl) rfl (congrArg (Value.int .i64) (wrap_in (by omega) (by omega))) (by kernel_rfl) ?_
     refine RW.v ?_
     refine RW.nil ?_
     rw [show out.length + (comC fold (pieceC fold m s i)).length + 1 = (out ++ comC fold (pieceC fold m s i) ++ [ms.getD i 0]).length by rw [List.length_append, List.length_append]; rfl, show out.map (Value.int .i64) ++ (comC fold (pieceC fold m s i)).map (Value.int .i64) ++ [.int .i64 (ms.getD i 0)] = (out ++ comC fold (pieceC fold m s i) ++ [ms.getD i 0]).map (Value.int .i64) by rw [List.map_append, List.map_append]; rfl] at H
     exact ⟨rfl, mm - 1, by omega, i + 1, F, v30, (out ++ comC fold (pieceC fold m s i) ++ [ms.getD i 0]), (by omega), le1, (by rw [List.length_append, List.length_append]; simp only [List.length_cons, List.length_nil]; omega), (by rw [hT, join_step hiw, ← hms, if_pos (by omega), ← List.append_assoc, ← List.append_assoc]), H, rfl, rfl, rfl, rfl, rfl, rfl, rfl⟩
    ·have hc23b := hc23
     have hc23 := of_decide_eq_false hc23
     refine W.skip ?_
     refine blkQ_normal ?_
     refine W.region ?_
     refine RW.v ?_
     refine RW.valE (v' := .int .i64 (((i : Nat) : Int) + 1)) (by kernel_rfl) (by kernel_rfl) rfl (congrArg (Value.int .i64) (wrap_in (by omega) (by omega))) (by kernel_rfl) ?_
     refine RW.v ?_
     refine RW.nil ?_
     rw [show out.length + (comC fold (pieceC fold m s i)).length = (out ++ comC fold (pieceC fold m s i) ++ []).length by rw [List.append_nil, List.length_append], show out.map (Value.int .i64) ++ (comC fold (pieceC fold m s i)).map (Value.int .i64) = (out ++ comC fold (pieceC fold m s i) ++ []).map (Value.int .i64) by rw [List.append_nil, List.map_append]] at H
     exact ⟨rfl, mm - 1, by omega, i + 1, F, v22, (out ++ comC fold (pieceC fold m s i) ++ []), (by omega), le1, (by rw [List.length_append, List.length_append]; simp only [List.length_cons, List.length_nil]; omega), (by rw [hT, join_step hiw, ← hms, if_neg (by omega), ← List.append_assoc, ← List.append_assoc]), H, rfl, rfl, rfl, rfl, rfl, rfl, rfl⟩
  ·have hc4b := hc4
   have hc4 := of_decide_eq_false hc4
   refine W.exit _ ?_
   refine seqQ_exit ?_
   refine rndQ_exit ?_
   have hJ : joinC fold m s ws.length 0 = out := by rw [hT, show ws.length - i = 0 by omega]; exact List.append_nil _
   obtain ⟨F, le, hout, H⟩ := H.freezeK 0 rfl
   dsimp only [setL, delL] at H
   replace le1 := fun b y h => le b y (le1 b y h)
   refine blkQ_here ?_
   refine W.seq (W.region ?_)
   refine RW.v ?_
   have hcc : ∀ c ∈ out, chB c = true := by rw [← hJ, hm, hws]; exact join_chars
   refine RW.cl ?_
   refine ((r_text hout.slf (by omega) hcc H).mono ?_)
   clear H
   rintro _ _ ⟨rfl, H⟩
   iterate 3 refine RW.v ?_
   refine RW.cl ?_
   refine ((r_status (fold := fold) (hmv.le le1) hml (fun x hx => Nat.le_trans (hmm x hx) (by decide)) (Nat.le_trans hs (by decide)) hdm hvm H).mono ?_)
   clear H
   rintro _ _ ⟨rfl, H⟩
   iterate 2 refine RW.v ?_
   refine RW.nil ?_
   refine W.ret ?_
   refine endG (by rfl) (by exact resL_tmp (by exact resL_tmp rfl)) ?_
   rw [show tryP fold l s = encA out by unfold tryP; rw [← hm, if_neg (fun e => by rw [e] at hmpos; exact absurd hmpos (Nat.lt_irrefl _)), ← hws, hJ]]
   exact ⟨rfl, (H).back (fun b y h => le1 b y (le01 b y h))⟩
end
end Go.Proofs.YtjcmdifpkafdkaaDoor
namespace Go.Proofs.YtjcmdifpkafdkaaDoor
open Go.Lib
set_option maxRecDepth 100000
open Go.RowKit
def fromC (c : List Int) : Nat → Nat
 | 0 => 0
 | n + 1 => if delC (c.getD n 0) = true then n + 1 else fromC c n
theorem from_go {c : List Int} {n : Nat} (h : 0 < n) (k : delC (c.getD (n - 1) 0) = false) : fromC c n = fromC c (n - 1) := by
 obtain ⟨m, rfl⟩ : ∃ m, n = m + 1 := ⟨n - 1, by omega⟩
 have k2 : delC (c.getD m 0) = false := k
 exact if_neg (by rw [k2]; exact Bool.false_ne_true)
theorem from_stop {c : List Int} {n : Nat} (h : 0 < n) (k : delC (c.getD (n - 1) 0) = true) : fromC c n = n := by
 obtain ⟨m, rfl⟩ : ∃ m, n = m + 1 := ⟨n - 1, by omega⟩
 exact if_pos k
def boundsC (s : List UInt8) (ix : Int) : Int × Int × Int := if validD s = false then (0, 0, 5) else if ix < 0 ∨ ix > ((runes s).length : Int) then (0, 0, 3) else ((fromC (runes s) ix.toNat : Int), (endC (runes s) ix.toNat : Int), 0)
section
variable {G : Nat} {A : Abs} {σ : Mem} {F : Nat → Option Blk2} {L : List Ent} {s : List UInt8} {ix : Int}
set_option maxHeartbeats 8000000 in
theorem Bounds_wc (hU : U8F F) (h16 : 16 ≤ G) (hs : s.length ≤ 1000000) (H : Lies G A F σ L) : WC G Tryd.prog 15 #[.string ⟨s.toArray⟩, .int .i64 ix] σ fun v σ' => v = .tuple #[.int .i64 (boundsC s ix).1, .int .i64 (boundsC s ix).2.1, .int .i64 (boundsC s ix).2.2] ∧ Lies G A F σ' L := by
 obtain ⟨F0, hF⟩ : ∃ F0, F0 = F := ⟨_, rfl⟩
 have le0 : Le F0 F := fun b y h => hF ▸ h
 rw [← hF] at hU ⊢
 refine WC.enter (fn := Tryd.f15) Tryd.func15 rfl ?_
 refine W.rg [(0, .string ⟨s.toArray⟩), (1, .int .i64 ix)] fun TA => ?_
 refine W.seq (W.region ?_)
 iterate 3 refine RW.v ?_
 refine RW.nil ?_
 refine W.rg [(0, .string ⟨s.toArray⟩), (1, .int .i64 ix)] fun TA => ?_
 refine W.seq ?_
 refine W.seq (W.region ?_)
 refine RW.v ?_
 refine RW.cl ?_
 refine ⟨_, _, (s_valid (hU.le (fun b y h => H.old _ _ (le0 b y h))) h16 hs), ?_⟩
 refine RW.v ?_
 refine RW.nil ?_
 refine W.rg [(0, .string ⟨s.toArray⟩), (1, .int .i64 ix), (10, .bool (!(validD s)))] fun TA => ?_
 refine W.cond rfl (fun hc1 => ?_) (fun hc1 => ?_)
 ·have hc1b := hc1
  have hvs : validD s = false := by simpa using hc1b
  refine W.seq (W.region ?_)
  iterate 3 refine RW.v ?_
  refine RW.nil ?_
  refine W.ret ?_
  refine seqQ_ret ?_
  refine endG (by rfl) (by exact resL_tmp (by exact resL_tmp (by exact resL_tmp rfl))) ?_
  have eb : boundsC s ix = (0, 0, 5) := by unfold boundsC; rw [if_pos hvs]
  rw [eb]
  exact ⟨rfl, (H).back le0⟩
 ·have hc1b := hc1
  have hvs : validD s = true := by simpa using hc1b
  refine W.skip ?_
  refine W.seq (W.region ?_)
  refine RW.v ?_
  refine RW.convR H hs (by kernel_rfl) (by kernel_rfl) rfl rfl rfl rfl rfl (by kernel_rfl) ?_
  clear H; intro _ cv2 H
  obtain ⟨F, le, hk3, H⟩ := H.freezeK 0 rfl
  dsimp only [setL, delL] at H
  replace le0 := fun b y h => le b y (le0 b y h)
  refine RW.v ?_
  refine RW.nil ?_
  refine W.rg [(1, .int .i64 ix), (7, cv2)] fun TA => ?_
  refine W.seq ?_
  refine W.seq (W.region ?_)
  iterate 3 refine RW.v ?_
  refine RW.both _ _ rfl rfl rfl (fun hc4 => ?_) (fun hc4 => ?_)
  ·have hc4b := hc4
   have hc4 := of_decide_eq_true hc4
   refine RW.skip (by rfl) (by kernel_rfl) ?_
   refine RW.skip (by rfl) (by kernel_rfl) ?_
   refine RW.skip (by rfl) (by kernel_rfl) ?_
   refine RW.skip (by rfl) (by kernel_rfl) ?_
   refine RW.v ?_
   refine RW.nil ?_
   refine W.c1 ?_
   refine W.seq (W.region ?_)
   iterate 3 refine RW.v ?_
   refine RW.nil ?_
   refine W.ret ?_
   refine seqQ_ret ?_
   refine endG (by rfl) (by exact resL_tmp (by exact resL_tmp (by exact resL_tmp rfl))) ?_
   have eb : boundsC s ix = (0, 0, 3) := by unfold boundsC; rw [if_neg (by rw [hvs]; exact Bool.noConfusion), if_pos (by omega)]
   rw [eb]
   exact ⟨rfl, (H).back le0⟩
  ·have hc4b := hc4
   have hc4 := of_decide_eq_false hc4
   have hge : 0 ≤ ix := by omega
   refine RW.val (by rfl) (by kernel_rfl) rfl (by kernel_rfl) ?_
   refine RW.val (by rfl) (by kernel_rfl) rfl (by kernel_rfl) ?_
   refine RW.len (by rfl) (by kernel_rfl) rfl rfl rfl rfl (hk3.slf.len (e := 21) (by kernel_rfl)) (by kernel_rfl) ?_
   refine RW.val (by rfl) (by kernel_rfl) rfl (by kernel_rfl) ?_
   refine RW.v ?_
   refine RW.nil ?_
   refine W.rg [(1, .int .i64 ix), (7, cv2), (20, .bool (decide (ix > ((runes s).length : Int))))] fun TA => ?_
   refine W.cond rfl (fun hc5 => ?_) (fun hc5 => ?_)
   ·have hc5b := hc5
    have hc5 := of_decide_eq_true hc5
    refine W.seq (W.region ?_)
    iterate 3 refine RW.v ?_
    refine RW.nil ?_
    refine W.ret ?_
    refine seqQ_ret ?_
    refine endG (by rfl) (by exact resL_tmp (by exact resL_tmp (by exact resL_tmp rfl))) ?_
    have eb : boundsC s ix = (0, 0, 3) := by unfold boundsC; rw [if_neg (by rw [hvs]; exact Bool.noConfusion), if_pos (by omega)]
    rw [eb]
    exact ⟨rfl, (H).back le0⟩
   ·have hc5b := hc5
    have hc5 := of_decide_eq_false hc5
    obtain ⟨p, rfl⟩ : ∃ p : Nat, ix = ((p : Nat) : Int) := ⟨ix.toNat, by omega⟩
    have hpl : p ≤ (runes s).length := by omega
    have hrl : (runes s).length ≤ 1000000 := Nat.le_trans (runes_le s) hs
    refine W.skip ?_
    refine W.seq (W.region ?_)
    iterate 4 refine RW.v ?_
    refine RW.nil ?_
    refine W.rg [(4, .int .i64 ((p : Nat) : Int)), (5, .int .i64 ((p : Nat) : Int)), (7, cv2)] fun TA => ?_
    refine W.seq ?_
    refine W.block ?_
    refine W.loop (fun mm ta σ => ∃ (n : Nat), (mm = n) ∧ (n ≤ p) ∧ (fromC (runes s) p = fromC (runes s) n) ∧ Lies G A F σ ((L)) ∧ ta 4 = .int .i64 ((n : Nat) : Int) ∧ ta 5 = .int .i64 ((p : Nat) : Int) ∧ ta 7 = cv2) p ?_ ?_
    ·exact ⟨p, rfl, (Nat.le_refl _), rfl, H, rfl, rfl, rfl⟩
    clear H
    rintro mm ta _ ⟨n, hmn, hnp, hT, H, e4, e5, e7⟩
    refine W.rst [(4, .int .i64 ((n : Nat) : Int)), (5, .int .i64 ((p : Nat) : Int)), (7, cv2)] ⟨e4, e5, e7, trivial⟩ fun TA => ?_
    clear e4 e5 e7
    refine W.seq ?_
    refine W.seq (W.region ?_)
    iterate 3 refine RW.v ?_
    refine RW.both _ _ rfl rfl rfl (fun hc6 => ?_) (fun hc6 => ?_)
    ·have hc6b := hc6
     have hc6 := of_decide_eq_true hc6
     refine RW.val (by rfl) (by kernel_rfl) rfl (by kernel_rfl) ?_
     refine RW.val (by rfl) (by kernel_rfl) rfl (by kernel_rfl) ?_
     have hn0 : 0 < n := by omega
     refine RW.valE (v' := .int .i64 (((n - 1) : Nat) : Int)) (by rfl) (by kernel_rfl) rfl ((show Value.int .i64 (IntKind.i64.wrap _) = .int .i64 (((n - 1) : Nat) : Int) from congrArg (Value.int .i64) ((wrap_in (by omega) (by omega)).trans (by omega)))) (by kernel_rfl) ?_
     refine RW.idxF hk3.slf (by rfl) (by kernel_rfl) rfl Tryd.underlying50 (by kernel_rfl) rfl rfl ⟨by omega, by omega⟩ (by kernel_rfl) ?_
     intro b7 q8 r9 hF10 hE11
     rw [runs_at (l := (runes s)) (j := (n - 1)) (i := (((n - 1) : Nat) : Int)) (by omega) (by omega)] at hE11
     refine RW.loads 1 (by rfl) (by kernel_rfl) rfl rfl (H.old _ _ hF10) hE11 rfl (by kernel_rfl) ?_
     refine RW.cl (hw := by rfl) ?_
     refine ((delim_wc (c := ((runes s).getD (n - 1) 0)) H).mono ?_)
     clear H
     rintro _ _ ⟨rfl, H⟩
     refine RW.val (by rfl) (by kernel_rfl) rfl (by kernel_rfl) ?_
     refine RW.v ?_
     refine RW.nil ?_
     refine W.rg [(4, .int .i64 ((n : Nat) : Int)), (5, .int .i64 ((p : Nat) : Int)), (7, cv2), (33, .bool (!(delC ((runes s).getD (n - 1) 0))))] fun TA => ?_
     refine W.cond rfl (fun hc12 => ?_) (fun hc12 => ?_)
     ·have hc12b := hc12
      have hc12e : delC ((runes s).getD (n - 1) 0) = false := by simpa using hc12b
      refine W.skip ?_
      refine W.block ?_
      refine W.region ?_
      refine RW.v ?_
      have hn0 : 0 < n := by omega
      refine RW.valE (v' := .int .i64 (((n - 1) : Nat) : Int)) (by kernel_rfl) (by kernel_rfl) rfl ((show Value.int .i64 (IntKind.i64.wrap _) = .int .i64 (((n - 1) : Nat) : Int) from congrArg (Value.int .i64) ((wrap_in (by omega) (by omega)).trans (by omega)))) (by kernel_rfl) ?_
      refine RW.v ?_
      refine RW.nil ?_
      refine blkQ_normal ?_
      exact ⟨rfl, mm - 1, by omega, (n - 1), (by omega), (by omega), (by rw [hT, from_go (by omega) hc12e]), H, rfl, rfl, rfl⟩
     ·have hc12b := hc12
      have hc12e : delC ((runes s).getD (n - 1) 0) = true := by simpa using hc12b
      refine W.exit _ ?_
      refine seqQ_exit ?_
      refine rndQ_exit ?_
      have hf : fromC (runes s) p = n := by rw [hT]; exact from_stop (by omega) hc12e
      refine blkQ_here ?_
      refine W.seq ?_
      refine W.block ?_
      refine W.loop (fun mm2 ta σ => ∃ (k : Nat), (mm2 + k = (runes s).length) ∧ (k ≤ (runes s).length) ∧ (endC (runes s) p = endC (runes s) k) ∧ Lies G A F σ ((L)) ∧ ta 4 = .int .i64 ((n : Nat) : Int) ∧ ta 5 = .int .i64 ((k : Nat) : Int) ∧ ta 7 = cv2) ((runes s).length - p) ?_ ?_
      ·exact ⟨p, (by omega), (by omega), rfl, H, rfl, rfl, rfl⟩
      clear H
      rintro mm2 ta _ ⟨k, hm2, hk0, hT2, H, e4, e5, e7⟩
      refine W.rst [(4, .int .i64 ((n : Nat) : Int)), (5, .int .i64 ((k : Nat) : Int)), (7, cv2)] ⟨e4, e5, e7, trivial⟩ fun TA => ?_
      clear e4 e5 e7
      refine W.seq ?_
      refine W.seq (W.region ?_)
      iterate 2 refine RW.v ?_
      refine RW.len (by kernel_rfl) (by kernel_rfl) rfl rfl rfl rfl (hk3.slf.len (e := 21) (by kernel_rfl)) (by kernel_rfl) ?_
      iterate 2 refine RW.v ?_
      refine RW.both _ _ rfl rfl rfl (fun hc13 => ?_) (fun hc13 => ?_)
      ·have hc13b := hc13
       have hc13 := of_decide_eq_true hc13
       have hkl : k < (runes s).length := by omega
       refine RW.val (by rfl) (by kernel_rfl) rfl (by kernel_rfl) ?_
       refine RW.val (by rfl) (by kernel_rfl) rfl (by kernel_rfl) ?_
       refine RW.idxF hk3.slf (by rfl) (by kernel_rfl) rfl Tryd.underlying50 (by kernel_rfl) rfl rfl ⟨by omega, by omega⟩ (by kernel_rfl) ?_
       intro b14 q15 r16 hF17 hE18
       rw [runs_at (l := (runes s)) (j := k) (i := ((k : Nat) : Int)) (by omega) (by omega)] at hE18
       refine RW.loads 1 (by rfl) (by kernel_rfl) rfl rfl (H.old _ _ hF17) hE18 rfl (by kernel_rfl) ?_
       refine RW.cl (hw := by rfl) ?_
       refine ((delim_wc (c := ((runes s).getD k 0)) H).mono ?_)
       clear H
       rintro _ _ ⟨rfl, H⟩
       refine RW.val (by rfl) (by kernel_rfl) rfl (by kernel_rfl) ?_
       refine RW.v ?_
       refine RW.nil ?_
       refine W.rg [(4, .int .i64 ((n : Nat) : Int)), (5, .int .i64 ((k : Nat) : Int)), (7, cv2), (47, .bool (!(delC ((runes s).getD k 0))))] fun TA => ?_
       refine W.cond rfl (fun hc19 => ?_) (fun hc19 => ?_)
       ·have hc19b := hc19
        have hc19e : delC ((runes s).getD k 0) = false := by simpa using hc19b
        refine W.skip ?_
        refine W.block ?_
        refine W.region ?_
        refine RW.v ?_
        refine RW.valE (v' := .int .i64 (((k : Nat) : Int) + 1)) (by kernel_rfl) (by kernel_rfl) rfl (congrArg (Value.int .i64) (wrap_in (by omega) (by omega))) (by kernel_rfl) ?_
        refine RW.v ?_
        refine RW.nil ?_
        refine blkQ_normal ?_
        exact ⟨rfl, mm2 - 1, by omega, k + 1, (by omega), (by omega), (by rw [hT2, endC_go hkl hc19e]), H, rfl, rfl, rfl⟩
       ·have hc19b := hc19
        have hc19e : delC ((runes s).getD k 0) = true := by simpa using hc19b
        refine W.exit _ ?_
        refine seqQ_exit ?_
        refine rndQ_exit ?_
        have ht : endC (runes s) p = k := by rw [hT2]; exact endC_stop hkl hc19e
        refine blkQ_here ?_
        refine W.seq (W.region ?_)
        iterate 5 refine RW.v ?_
        refine RW.nil ?_
        refine W.ret ?_
        refine endG (by rfl) (by exact resL_tmp (by exact resL_tmp (by exact resL_tmp rfl))) ?_
        have eb : boundsC s ((p : Nat) : Int) = (((n : Nat) : Int), ((k : Nat) : Int), 0) := by unfold boundsC; rw [if_neg (by rw [hvs]; exact Bool.noConfusion), if_neg (by omega), Int.toNat_natCast, hf, ht]
        rw [eb]
        exact ⟨rfl, (H).back le0⟩
      ·have hc13b := hc13
       have hc13 := of_decide_eq_false hc13
       refine RW.skip (by rfl) (by kernel_rfl) ?_
       refine RW.skip (by rfl) (by kernel_rfl) ?_
       refine RW.skip (by rfl) (by kernel_rfl) ?_
       refine RW.skip (by rfl) (by kernel_rfl) ?_
       refine RW.skip (by rfl) (by kernel_rfl) ?_
       refine RW.skip (by rfl) (by kernel_rfl) ?_
       refine RW.v ?_
       refine RW.nil ?_
       refine W.c0 ?_
       refine W.exit _ ?_
       refine seqQ_exit ?_
       refine rndQ_exit ?_
       have ht : endC (runes s) p = k := by rw [hT2]; exact endC_end (by omega)
       refine blkQ_here ?_
       refine W.seq (W.region ?_)
       iterate 5 refine RW.v ?_
       refine RW.nil ?_
       refine W.ret ?_
       refine endG (by rfl) (by exact resL_tmp (by exact resL_tmp (by exact resL_tmp rfl))) ?_
       have eb : boundsC s ((p : Nat) : Int) = (((n : Nat) : Int), ((k : Nat) : Int), 0) := by unfold boundsC; rw [if_neg (by rw [hvs]; exact Bool.noConfusion), if_neg (by omega), Int.toNat_natCast, hf, ht]
       rw [eb]
       exact ⟨rfl, (H).back le0⟩
    ·have hc6b := hc6
     have hc6 := of_decide_eq_false hc6
     refine RW.skip (by rfl) (by kernel_rfl) ?_
     refine RW.skip (by rfl) (by kernel_rfl) ?_
     refine RW.skip (by rfl) (by kernel_rfl) ?_
     refine RW.skip (by rfl) (by kernel_rfl) ?_
     refine RW.skip (by rfl) (by kernel_rfl) ?_
     refine RW.skip (by rfl) (by kernel_rfl) ?_
     refine RW.skip (by rfl) (by kernel_rfl) ?_
     refine RW.v ?_
     refine RW.nil ?_
     refine W.c0 ?_
     refine W.exit _ ?_
     refine seqQ_exit ?_
     refine rndQ_exit ?_
     have hf : fromC (runes s) p = n := by rw [hT]; have hz0 : n = 0 := (by omega); rw [hz0]; rfl
     refine blkQ_here ?_
     refine W.seq ?_
     refine W.block ?_
     refine W.loop (fun mm2 ta σ => ∃ (k : Nat), (mm2 + k = (runes s).length) ∧ (k ≤ (runes s).length) ∧ (endC (runes s) p = endC (runes s) k) ∧ Lies G A F σ ((L)) ∧ ta 4 = .int .i64 ((n : Nat) : Int) ∧ ta 5 = .int .i64 ((k : Nat) : Int) ∧ ta 7 = cv2) ((runes s).length - p) ?_ ?_
     ·exact ⟨p, (by omega), (by omega), rfl, H, rfl, rfl, rfl⟩
     clear H
     rintro mm2 ta _ ⟨k, hm2, hk0, hT2, H, e4, e5, e7⟩
     refine W.rst [(4, .int .i64 ((n : Nat) : Int)), (5, .int .i64 ((k : Nat) : Int)), (7, cv2)] ⟨e4, e5, e7, trivial⟩ fun TA => ?_
     clear e4 e5 e7
     refine W.seq ?_
     refine W.seq (W.region ?_)
     iterate 2 refine RW.v ?_
     refine RW.len (by kernel_rfl) (by kernel_rfl) rfl rfl rfl rfl (hk3.slf.len (e := 21) (by kernel_rfl)) (by kernel_rfl) ?_
     iterate 2 refine RW.v ?_
     refine RW.both _ _ rfl rfl rfl (fun hc20 => ?_) (fun hc20 => ?_)
     ·have hc20b := hc20
      have hc20 := of_decide_eq_true hc20
      have hkl : k < (runes s).length := by omega
      refine RW.val (by rfl) (by kernel_rfl) rfl (by kernel_rfl) ?_
      refine RW.val (by rfl) (by kernel_rfl) rfl (by kernel_rfl) ?_
      refine RW.idxF hk3.slf (by rfl) (by kernel_rfl) rfl Tryd.underlying50 (by kernel_rfl) rfl rfl ⟨by omega, by omega⟩ (by kernel_rfl) ?_
      intro b21 q22 r23 hF24 hE25
      rw [runs_at (l := (runes s)) (j := k) (i := ((k : Nat) : Int)) (by omega) (by omega)] at hE25
      refine RW.loads 1 (by rfl) (by kernel_rfl) rfl rfl (H.old _ _ hF24) hE25 rfl (by kernel_rfl) ?_
      refine RW.cl (hw := by rfl) ?_
      refine ((delim_wc (c := ((runes s).getD k 0)) H).mono ?_)
      clear H
      rintro _ _ ⟨rfl, H⟩
      refine RW.val (by rfl) (by kernel_rfl) rfl (by kernel_rfl) ?_
      refine RW.v ?_
      refine RW.nil ?_
      refine W.rg [(4, .int .i64 ((n : Nat) : Int)), (5, .int .i64 ((k : Nat) : Int)), (7, cv2), (47, .bool (!(delC ((runes s).getD k 0))))] fun TA => ?_
      refine W.cond rfl (fun hc26 => ?_) (fun hc26 => ?_)
      ·have hc26b := hc26
       have hc26e : delC ((runes s).getD k 0) = false := by simpa using hc26b
       refine W.skip ?_
       refine W.block ?_
       refine W.region ?_
       refine RW.v ?_
       refine RW.valE (v' := .int .i64 (((k : Nat) : Int) + 1)) (by kernel_rfl) (by kernel_rfl) rfl (congrArg (Value.int .i64) (wrap_in (by omega) (by omega))) (by kernel_rfl) ?_
       refine RW.v ?_
       refine RW.nil ?_
       refine blkQ_normal ?_
       exact ⟨rfl, mm2 - 1, by omega, k + 1, (by omega), (by omega), (by rw [hT2, endC_go hkl hc26e]), H, rfl, rfl, rfl⟩
      ·have hc26b := hc26
       have hc26e : delC ((runes s).getD k 0) = true := by simpa using hc26b
       refine W.exit _ ?_
       refine seqQ_exit ?_
       refine rndQ_exit ?_
       have ht : endC (runes s) p = k := by rw [hT2]; exact endC_stop hkl hc26e
       refine blkQ_here ?_
       refine W.seq (W.region ?_)
       iterate 5 refine RW.v ?_
       refine RW.nil ?_
       refine W.ret ?_
       refine endG (by rfl) (by exact resL_tmp (by exact resL_tmp (by exact resL_tmp rfl))) ?_
       have eb : boundsC s ((p : Nat) : Int) = (((n : Nat) : Int), ((k : Nat) : Int), 0) := by unfold boundsC; rw [if_neg (by rw [hvs]; exact Bool.noConfusion), if_neg (by omega), Int.toNat_natCast, hf, ht]
       rw [eb]
       exact ⟨rfl, (H).back le0⟩
     ·have hc20b := hc20
      have hc20 := of_decide_eq_false hc20
      refine RW.skip (by rfl) (by kernel_rfl) ?_
      refine RW.skip (by rfl) (by kernel_rfl) ?_
      refine RW.skip (by rfl) (by kernel_rfl) ?_
      refine RW.skip (by rfl) (by kernel_rfl) ?_
      refine RW.skip (by rfl) (by kernel_rfl) ?_
      refine RW.skip (by rfl) (by kernel_rfl) ?_
      refine RW.v ?_
      refine RW.nil ?_
      refine W.c0 ?_
      refine W.exit _ ?_
      refine seqQ_exit ?_
      refine rndQ_exit ?_
      have ht : endC (runes s) p = k := by rw [hT2]; exact endC_end (by omega)
      refine blkQ_here ?_
      refine W.seq (W.region ?_)
      iterate 5 refine RW.v ?_
      refine RW.nil ?_
      refine W.ret ?_
      refine endG (by rfl) (by exact resL_tmp (by exact resL_tmp (by exact resL_tmp rfl))) ?_
      have eb : boundsC s ((p : Nat) : Int) = (((n : Nat) : Int), ((k : Nat) : Int), 0) := by unfold boundsC; rw [if_neg (by rw [hvs]; exact Bool.noConfusion), if_neg (by omega), Int.toNat_natCast, hf, ht]
      rw [eb]
      exact ⟨rfl, (H).back le0⟩
set_option maxHeartbeats 8000000 in
theorem r_bounds (hs : s.length ≤ 1000000) (H : Lies G A F σ L) : WC G Tryd.prog 16 #[.string ⟨s.toArray⟩, .int .i64 ix] σ fun v σ' => v = .tuple #[.int .i64 (boundsC s ix).1, .int .i64 (boundsC s ix).2.1, .int .i64 (boundsC s ix).2.2] ∧ Lies G A F σ' L := by
 obtain ⟨F0, hF⟩ : ∃ F0, F0 = F := ⟨_, rfl⟩
 have le0 : Le F0 F := fun b y h => hF ▸ h
 rw [← hF]
 refine WC.enter (fn := Tryd.f16) Tryd.func16 rfl ?_
 refine W.rg [(0, .string ⟨s.toArray⟩), (1, .int .i64 ix)] fun TA => ?_
 refine W.seq (W.region ?_)
 iterate 3 refine RW.v ?_
 refine RW.nil ?_
 refine W.rg [(0, .string ⟨s.toArray⟩), (1, .int .i64 ix)] fun TA => ?_
 refine W.seq ?_
 refine W.seq (W.region ?_)
 refine RW.v ?_
 refine RW.cl ?_
 refine ⟨_, _, (s_rvalid hs), ?_⟩
 refine RW.v ?_
 refine RW.nil ?_
 refine W.rg [(0, .string ⟨s.toArray⟩), (1, .int .i64 ix), (12, .bool (!(validD s)))] fun TA => ?_
 refine W.cond rfl (fun hc1 => ?_) (fun hc1 => ?_)
 ·have hc1b := hc1
  have hvs : validD s = false := by simpa using hc1b
  refine W.seq (W.region ?_)
  iterate 3 refine RW.v ?_
  refine RW.nil ?_
  refine W.ret ?_
  refine seqQ_ret ?_
  refine endG (by rfl) (by exact resL_tmp (by exact resL_tmp (by exact resL_tmp rfl))) ?_
  have eb : boundsC s ix = (0, 0, 5) := by unfold boundsC; rw [if_pos hvs]
  rw [eb]
  exact ⟨rfl, (H).back le0⟩
 ·have hc1b := hc1
  have hvs : validD s = true := by simpa using hc1b
  refine W.skip ?_
  refine W.seq (W.region ?_)
  refine RW.v ?_
  refine RW.cl ?_
  refine ((r_chars hs H).mono ?_)
  clear H
  rintro cu2 _ ⟨F, _, le, rfl, hu3, H⟩
  replace le0 := fun b y h => le b y (le0 b y h)
  rw [chars_yes hvs] at hu3
  refine RW.v ?_
  refine RW.nil ?_
  refine W.rg [(1, .int .i64 ix), (7, cu2)] fun TA => ?_
  refine W.seq ?_
  refine W.seq (W.region ?_)
  iterate 3 refine RW.v ?_
  refine RW.both _ _ rfl rfl rfl (fun hc4 => ?_) (fun hc4 => ?_)
  ·have hc4b := hc4
   have hc4 := of_decide_eq_true hc4
   refine RW.skip (by rfl) (by kernel_rfl) ?_
   refine RW.skip (by rfl) (by kernel_rfl) ?_
   refine RW.skip (by rfl) (by kernel_rfl) ?_
   refine RW.skip (by rfl) (by kernel_rfl) ?_
   refine RW.v ?_
   refine RW.nil ?_
   refine W.c1 ?_
   refine W.seq (W.region ?_)
   iterate 3 refine RW.v ?_
   refine RW.nil ?_
   refine W.ret ?_
   refine seqQ_ret ?_
   refine endG (by rfl) (by exact resL_tmp (by exact resL_tmp (by exact resL_tmp rfl))) ?_
   have eb : boundsC s ix = (0, 0, 3) := by unfold boundsC; rw [if_neg (by rw [hvs]; exact Bool.noConfusion), if_pos (by omega)]
   rw [eb]
   exact ⟨rfl, (H).back le0⟩
  ·have hc4b := hc4
   have hc4 := of_decide_eq_false hc4
   have hge : 0 ≤ ix := by omega
   refine RW.val (by rfl) (by kernel_rfl) rfl (by kernel_rfl) ?_
   refine RW.val (by rfl) (by kernel_rfl) rfl (by kernel_rfl) ?_
   refine RW.len (by rfl) (by kernel_rfl) rfl rfl rfl rfl (hu3.slf.len (e := 3) (by kernel_rfl)) (by kernel_rfl) ?_
   refine RW.val (by rfl) (by kernel_rfl) rfl (by kernel_rfl) ?_
   refine RW.v ?_
   refine RW.nil ?_
   refine W.rg [(1, .int .i64 ix), (7, cu2), (22, .bool (decide (ix > ((runes s).length : Int))))] fun TA => ?_
   refine W.cond rfl (fun hc5 => ?_) (fun hc5 => ?_)
   ·have hc5b := hc5
    have hc5 := of_decide_eq_true hc5
    refine W.seq (W.region ?_)
    iterate 3 refine RW.v ?_
    refine RW.nil ?_
    refine W.ret ?_
    refine seqQ_ret ?_
    refine endG (by rfl) (by exact resL_tmp (by exact resL_tmp (by exact resL_tmp rfl))) ?_
    have eb : boundsC s ix = (0, 0, 3) := by unfold boundsC; rw [if_neg (by rw [hvs]; exact Bool.noConfusion), if_pos (by omega)]
    rw [eb]
    exact ⟨rfl, (H).back le0⟩
   ·have hc5b := hc5
    have hc5 := of_decide_eq_false hc5
    obtain ⟨p, rfl⟩ : ∃ p : Nat, ix = ((p : Nat) : Int) := ⟨ix.toNat, by omega⟩
    have hpl : p ≤ (runes s).length := by omega
    have hrl : (runes s).length ≤ 1000000 := Nat.le_trans (runes_le s) hs
    refine W.skip ?_
    refine W.seq (W.region ?_)
    iterate 4 refine RW.v ?_
    refine RW.nil ?_
    refine W.rg [(7, cu2), (8, .int .i64 ((p : Nat) : Int)), (9, .int .i64 ((p : Nat) : Int))] fun TA => ?_
    refine W.seq ?_
    refine W.block ?_
    refine W.loop (fun mm ta σ => ∃ (n : Nat), (mm = n) ∧ (n ≤ p) ∧ (fromC (runes s) p = fromC (runes s) n) ∧ Lies G A F σ ((L)) ∧ ta 7 = cu2 ∧ ta 8 = .int .i64 ((n : Nat) : Int) ∧ ta 9 = .int .i64 ((p : Nat) : Int)) p ?_ ?_
    ·exact ⟨p, rfl, (Nat.le_refl _), rfl, H, rfl, rfl, rfl⟩
    clear H
    rintro mm ta _ ⟨n, hmn, hnp, hT, H, e7, e8, e9⟩
    refine W.rst [(7, cu2), (8, .int .i64 ((n : Nat) : Int)), (9, .int .i64 ((p : Nat) : Int))] ⟨e7, e8, e9, trivial⟩ fun TA => ?_
    clear e7 e8 e9
    refine W.seq ?_
    refine W.seq (W.region ?_)
    iterate 3 refine RW.v ?_
    refine RW.both _ _ rfl rfl rfl (fun hc6 => ?_) (fun hc6 => ?_)
    ·have hc6b := hc6
     have hc6 := of_decide_eq_true hc6
     refine RW.val (by rfl) (by kernel_rfl) rfl (by kernel_rfl) ?_
     refine RW.val (by rfl) (by kernel_rfl) rfl (by kernel_rfl) ?_
     have hn0 : 0 < n := by omega
     refine RW.valE (v' := .int .i64 (((n - 1) : Nat) : Int)) (by rfl) (by kernel_rfl) rfl ((show Value.int .i64 (IntKind.i64.wrap _) = .int .i64 (((n - 1) : Nat) : Int) from congrArg (Value.int .i64) ((wrap_in (by omega) (by omega)).trans (by omega)))) (by kernel_rfl) ?_
     refine RW.idxF hu3.slf (by rfl) (by kernel_rfl) rfl Tryd.underlying59 (by kernel_rfl) rfl rfl ⟨by omega, by omega⟩ (by kernel_rfl) ?_
     intro b7 q8 r9 hF10 hE11
     rw [intz_at (l := (runes s)) (j := (n - 1)) (i := (((n - 1) : Nat) : Int)) (by omega) (by omega)] at hE11
     refine RW.loads 1 (by rfl) (by kernel_rfl) rfl rfl (H.old _ _ hF10) hE11 rfl (by kernel_rfl) ?_
     refine RW.cl (hw := by rfl) ?_
     refine ((r_delim (c := ((runes s).getD (n - 1) 0)) H).mono ?_)
     clear H
     rintro _ _ ⟨rfl, H⟩
     refine RW.val (by rfl) (by kernel_rfl) rfl (by kernel_rfl) ?_
     refine RW.v ?_
     refine RW.nil ?_
     refine W.rg [(7, cu2), (8, .int .i64 ((n : Nat) : Int)), (9, .int .i64 ((p : Nat) : Int)), (35, .bool (!(delC ((runes s).getD (n - 1) 0))))] fun TA => ?_
     refine W.cond rfl (fun hc12 => ?_) (fun hc12 => ?_)
     ·have hc12b := hc12
      have hc12e : delC ((runes s).getD (n - 1) 0) = false := by simpa using hc12b
      refine W.skip ?_
      refine W.block ?_
      refine W.region ?_
      refine RW.v ?_
      have hn0 : 0 < n := by omega
      refine RW.valE (v' := .int .i64 (((n - 1) : Nat) : Int)) (by kernel_rfl) (by kernel_rfl) rfl ((show Value.int .i64 (IntKind.i64.wrap _) = .int .i64 (((n - 1) : Nat) : Int) from congrArg (Value.int .i64) ((wrap_in (by omega) (by omega)).trans (by omega)))) (by kernel_rfl) ?_
      refine RW.v ?_
      refine RW.nil ?_
      refine blkQ_normal ?_
      exact ⟨rfl, mm - 1, by omega, (n - 1), (by omega), (by omega), (by rw [hT, from_go (by omega) hc12e]), H, rfl, rfl, rfl⟩
     ·have hc12b := hc12
      have hc12e : delC ((runes s).getD (n - 1) 0) = true := by simpa using hc12b
      refine W.exit _ ?_
      refine seqQ_exit ?_
      refine rndQ_exit ?_
      have hf : fromC (runes s) p = n := by rw [hT]; exact from_stop (by omega) hc12e
      refine blkQ_here ?_
      refine W.seq ?_
      refine W.block ?_
      refine W.loop (fun mm2 ta σ => ∃ (k : Nat), (mm2 + k = (runes s).length) ∧ (k ≤ (runes s).length) ∧ (endC (runes s) p = endC (runes s) k) ∧ Lies G A F σ ((L)) ∧ ta 7 = cu2 ∧ ta 8 = .int .i64 ((n : Nat) : Int) ∧ ta 9 = .int .i64 ((k : Nat) : Int)) ((runes s).length - p) ?_ ?_
      ·exact ⟨p, (by omega), (by omega), rfl, H, rfl, rfl, rfl⟩
      clear H
      rintro mm2 ta _ ⟨k, hm2, hk0, hT2, H, e7, e8, e9⟩
      refine W.rst [(7, cu2), (8, .int .i64 ((n : Nat) : Int)), (9, .int .i64 ((k : Nat) : Int))] ⟨e7, e8, e9, trivial⟩ fun TA => ?_
      clear e7 e8 e9
      refine W.seq ?_
      refine W.seq (W.region ?_)
      iterate 2 refine RW.v ?_
      refine RW.len (by kernel_rfl) (by kernel_rfl) rfl rfl rfl rfl (hu3.slf.len (e := 3) (by kernel_rfl)) (by kernel_rfl) ?_
      iterate 2 refine RW.v ?_
      refine RW.both _ _ rfl rfl rfl (fun hc13 => ?_) (fun hc13 => ?_)
      ·have hc13b := hc13
       have hc13 := of_decide_eq_true hc13
       have hkl : k < (runes s).length := by omega
       refine RW.val (by rfl) (by kernel_rfl) rfl (by kernel_rfl) ?_
       refine RW.val (by rfl) (by kernel_rfl) rfl (by kernel_rfl) ?_
       refine RW.idxF hu3.slf (by rfl) (by kernel_rfl) rfl Tryd.underlying59 (by kernel_rfl) rfl rfl ⟨by omega, by omega⟩ (by kernel_rfl) ?_
       intro b14 q15 r16 hF17 hE18
       rw [intz_at (l := (runes s)) (j := k) (i := ((k : Nat) : Int)) (by omega) (by omega)] at hE18
       refine RW.loads 1 (by rfl) (by kernel_rfl) rfl rfl (H.old _ _ hF17) hE18 rfl (by kernel_rfl) ?_
       refine RW.cl (hw := by rfl) ?_
       refine ((r_delim (c := ((runes s).getD k 0)) H).mono ?_)
       clear H
       rintro _ _ ⟨rfl, H⟩
       refine RW.val (by rfl) (by kernel_rfl) rfl (by kernel_rfl) ?_
       refine RW.v ?_
       refine RW.nil ?_
       refine W.rg [(7, cu2), (8, .int .i64 ((n : Nat) : Int)), (9, .int .i64 ((k : Nat) : Int)), (49, .bool (!(delC ((runes s).getD k 0))))] fun TA => ?_
       refine W.cond rfl (fun hc19 => ?_) (fun hc19 => ?_)
       ·have hc19b := hc19
        have hc19e : delC ((runes s).getD k 0) = false := by simpa using hc19b
        refine W.skip ?_
        refine W.block ?_
        refine W.region ?_
        refine RW.v ?_
        refine RW.valE (v' := .int .i64 (((k : Nat) : Int) + 1)) (by kernel_rfl) (by kernel_rfl) rfl (congrArg (Value.int .i64) (wrap_in (by omega) (by omega))) (by kernel_rfl) ?_
        refine RW.v ?_
        refine RW.nil ?_
        refine blkQ_normal ?_
        exact ⟨rfl, mm2 - 1, by omega, k + 1, (by omega), (by omega), (by rw [hT2, endC_go hkl hc19e]), H, rfl, rfl, rfl⟩
       ·have hc19b := hc19
        have hc19e : delC ((runes s).getD k 0) = true := by simpa using hc19b
        refine W.exit _ ?_
        refine seqQ_exit ?_
        refine rndQ_exit ?_
        have ht : endC (runes s) p = k := by rw [hT2]; exact endC_stop hkl hc19e
        refine blkQ_here ?_
        refine W.seq (W.region ?_)
        iterate 5 refine RW.v ?_
        refine RW.nil ?_
        refine W.ret ?_
        refine endG (by rfl) (by exact resL_tmp (by exact resL_tmp (by exact resL_tmp rfl))) ?_
        have eb : boundsC s ((p : Nat) : Int) = (((n : Nat) : Int), ((k : Nat) : Int), 0) := by unfold boundsC; rw [if_neg (by rw [hvs]; exact Bool.noConfusion), if_neg (by omega), Int.toNat_natCast, hf, ht]
        rw [eb]
        exact ⟨rfl, (H).back le0⟩
      ·have hc13b := hc13
       have hc13 := of_decide_eq_false hc13
       refine RW.skip (by rfl) (by kernel_rfl) ?_
       refine RW.skip (by rfl) (by kernel_rfl) ?_
       refine RW.skip (by rfl) (by kernel_rfl) ?_
       refine RW.skip (by rfl) (by kernel_rfl) ?_
       refine RW.skip (by rfl) (by kernel_rfl) ?_
       refine RW.skip (by rfl) (by kernel_rfl) ?_
       refine RW.v ?_
       refine RW.nil ?_
       refine W.c0 ?_
       refine W.exit _ ?_
       refine seqQ_exit ?_
       refine rndQ_exit ?_
       have ht : endC (runes s) p = k := by rw [hT2]; exact endC_end (by omega)
       refine blkQ_here ?_
       refine W.seq (W.region ?_)
       iterate 5 refine RW.v ?_
       refine RW.nil ?_
       refine W.ret ?_
       refine endG (by rfl) (by exact resL_tmp (by exact resL_tmp (by exact resL_tmp rfl))) ?_
       have eb : boundsC s ((p : Nat) : Int) = (((n : Nat) : Int), ((k : Nat) : Int), 0) := by unfold boundsC; rw [if_neg (by rw [hvs]; exact Bool.noConfusion), if_neg (by omega), Int.toNat_natCast, hf, ht]
       rw [eb]
       exact ⟨rfl, (H).back le0⟩
    ·have hc6b := hc6
     have hc6 := of_decide_eq_false hc6
     refine RW.skip (by rfl) (by kernel_rfl) ?_
     refine RW.skip (by rfl) (by kernel_rfl) ?_
     refine RW.skip (by rfl) (by kernel_rfl) ?_
     refine RW.skip (by rfl) (by kernel_rfl) ?_
     refine RW.skip (by rfl) (by kernel_rfl) ?_
     refine RW.skip (by rfl) (by kernel_rfl) ?_
     refine RW.skip (by rfl) (by kernel_rfl) ?_
     refine RW.v ?_
     refine RW.nil ?_
     refine W.c0 ?_
     refine W.exit _ ?_
     refine seqQ_exit ?_
     refine rndQ_exit ?_
     have hf : fromC (runes s) p = n := by rw [hT]; have hz0 : n = 0 := (by omega); rw [hz0]; rfl
     refine blkQ_here ?_
     refine W.seq ?_
     refine W.block ?_
     refine W.loop (fun mm2 ta σ => ∃ (k : Nat), (mm2 + k = (runes s).length) ∧ (k ≤ (runes s).length) ∧ (endC (runes s) p = endC (runes s) k) ∧ Lies G A F σ ((L)) ∧ ta 7 = cu2 ∧ ta 8 = .int .i64 ((n : Nat) : Int) ∧ ta 9 = .int .i64 ((k : Nat) : Int)) ((runes s).length - p) ?_ ?_
     ·exact ⟨p, (by omega), (by omega), rfl, H, rfl, rfl, rfl⟩
     clear H
     rintro mm2 ta _ ⟨k, hm2, hk0, hT2, H, e7, e8, e9⟩
     refine W.rst [(7, cu2), (8, .int .i64 ((n : Nat) : Int)), (9, .int .i64 ((k : Nat) : Int))] ⟨e7, e8, e9, trivial⟩ fun TA => ?_
     clear e7 e8 e9
     refine W.seq ?_
     refine W.seq (W.region ?_)
     iterate 2 refine RW.v ?_
     refine RW.len (by kernel_rfl) (by kernel_rfl) rfl rfl rfl rfl (hu3.slf.len (e := 3) (by kernel_rfl)) (by kernel_rfl) ?_
     iterate 2 refine RW.v ?_
     refine RW.both _ _ rfl rfl rfl (fun hc20 => ?_) (fun hc20 => ?_)
     ·have hc20b := hc20
      have hc20 := of_decide_eq_true hc20
      have hkl : k < (runes s).length := by omega
      refine RW.val (by rfl) (by kernel_rfl) rfl (by kernel_rfl) ?_
      refine RW.val (by rfl) (by kernel_rfl) rfl (by kernel_rfl) ?_
      refine RW.idxF hu3.slf (by rfl) (by kernel_rfl) rfl Tryd.underlying59 (by kernel_rfl) rfl rfl ⟨by omega, by omega⟩ (by kernel_rfl) ?_
      intro b21 q22 r23 hF24 hE25
      rw [intz_at (l := (runes s)) (j := k) (i := ((k : Nat) : Int)) (by omega) (by omega)] at hE25
      refine RW.loads 1 (by rfl) (by kernel_rfl) rfl rfl (H.old _ _ hF24) hE25 rfl (by kernel_rfl) ?_
      refine RW.cl (hw := by rfl) ?_
      refine ((r_delim (c := ((runes s).getD k 0)) H).mono ?_)
      clear H
      rintro _ _ ⟨rfl, H⟩
      refine RW.val (by rfl) (by kernel_rfl) rfl (by kernel_rfl) ?_
      refine RW.v ?_
      refine RW.nil ?_
      refine W.rg [(7, cu2), (8, .int .i64 ((n : Nat) : Int)), (9, .int .i64 ((k : Nat) : Int)), (49, .bool (!(delC ((runes s).getD k 0))))] fun TA => ?_
      refine W.cond rfl (fun hc26 => ?_) (fun hc26 => ?_)
      ·have hc26b := hc26
       have hc26e : delC ((runes s).getD k 0) = false := by simpa using hc26b
       refine W.skip ?_
       refine W.block ?_
       refine W.region ?_
       refine RW.v ?_
       refine RW.valE (v' := .int .i64 (((k : Nat) : Int) + 1)) (by kernel_rfl) (by kernel_rfl) rfl (congrArg (Value.int .i64) (wrap_in (by omega) (by omega))) (by kernel_rfl) ?_
       refine RW.v ?_
       refine RW.nil ?_
       refine blkQ_normal ?_
       exact ⟨rfl, mm2 - 1, by omega, k + 1, (by omega), (by omega), (by rw [hT2, endC_go hkl hc26e]), H, rfl, rfl, rfl⟩
      ·have hc26b := hc26
       have hc26e : delC ((runes s).getD k 0) = true := by simpa using hc26b
       refine W.exit _ ?_
       refine seqQ_exit ?_
       refine rndQ_exit ?_
       have ht : endC (runes s) p = k := by rw [hT2]; exact endC_stop hkl hc26e
       refine blkQ_here ?_
       refine W.seq (W.region ?_)
       iterate 5 refine RW.v ?_
       refine RW.nil ?_
       refine W.ret ?_
       refine endG (by rfl) (by exact resL_tmp (by exact resL_tmp (by exact resL_tmp rfl))) ?_
       have eb : boundsC s ((p : Nat) : Int) = (((n : Nat) : Int), ((k : Nat) : Int), 0) := by unfold boundsC; rw [if_neg (by rw [hvs]; exact Bool.noConfusion), if_neg (by omega), Int.toNat_natCast, hf, ht]
       rw [eb]
       exact ⟨rfl, (H).back le0⟩
     ·have hc20b := hc20
      have hc20 := of_decide_eq_false hc20
      refine RW.skip (by rfl) (by kernel_rfl) ?_
      refine RW.skip (by rfl) (by kernel_rfl) ?_
      refine RW.skip (by rfl) (by kernel_rfl) ?_
      refine RW.skip (by rfl) (by kernel_rfl) ?_
      refine RW.skip (by rfl) (by kernel_rfl) ?_
      refine RW.skip (by rfl) (by kernel_rfl) ?_
      refine RW.v ?_
      refine RW.nil ?_
      refine W.c0 ?_
      refine W.exit _ ?_
      refine seqQ_exit ?_
      refine rndQ_exit ?_
      have ht : endC (runes s) p = k := by rw [hT2]; exact endC_end (by omega)
      refine blkQ_here ?_
      refine W.seq (W.region ?_)
      iterate 5 refine RW.v ?_
      refine RW.nil ?_
      refine W.ret ?_
      refine endG (by rfl) (by exact resL_tmp (by exact resL_tmp (by exact resL_tmp rfl))) ?_
      have eb : boundsC s ((p : Nat) : Int) = (((n : Nat) : Int), ((k : Nat) : Int), 0) := by unfold boundsC; rw [if_neg (by rw [hvs]; exact Bool.noConfusion), if_neg (by omega), Int.toNat_natCast, hf, ht]
      rw [eb]
      exact ⟨rfl, (H).back le0⟩
end
end Go.Proofs.YtjcmdifpkafdkaaDoor
namespace Go.Proofs.YtjcmdifpkafdkaaDoor
open Go.Lib
set_option maxRecDepth 100000
set_option maxHeartbeats 16000000 in
theorem cwords_law {G : Nat} {σ0 : Mem} {v1 : Value} {l : List (List UInt8)} {s : List UInt8} {fold : Bool} {ix : Int} (hG : G ≤ σ0.next) (hno : σ0.abs = Abs.no) (h16 : 16 ≤ G) (hU : U8F σ0.get) (CK : ∀ σ', (∀ b y, σ0.get b = some y → σ'.get b = some y) → SCall G Tryd.prog 11 #[] σ' (.bool true) σ') (hl0 : l.length ≤ 9223372036854775807) (h1 : SlF σ0.get 1 v1 l.length (l.map strV)) :
  WC G Tryd.prog 3 #[v1, .string ⟨s.toArray⟩, .bool fold, .int .i64 ix] σ0 fun v _ => v = .bool true := by
 have H := Lies.start hG hno
 generalize σ0.get = F0 at H h1 hU CK
 obtain ⟨F, hF⟩ : ∃ F, F = F0 := ⟨_, rfl⟩
 have le0 : Le F0 F := fun b y h => hF ▸ h
 rw [← hF] at H
 clear hF
 refine WC.enter (fn := Tryd.f3) Tryd.func3 rfl ?_
 refine W.rg [(0, v1), (1, .string ⟨s.toArray⟩), (2, .bool fold), (3, .int .i64 ix)] fun TA => ?_
 refine W.seq (W.region ?_)
 refine RW.v ?_
 refine RW.nil ?_
 refine W.rg [(0, v1), (1, .string ⟨s.toArray⟩), (2, .bool fold), (3, .int .i64 ix)] fun TA => ?_
 refine W.seq ?_
 refine W.seq (W.region ?_)
 iterate 2 refine RW.v ?_
 refine RW.cl ?_
 refine ((light_wc (h1.le le0) hl0 H).mono ?_)
 clear H
 rintro _ _ ⟨lb, rfl, hlb, H⟩
 refine RW.v ?_
 refine RW.nil ?_
 refine W.rg [(0, v1), (1, .string ⟨s.toArray⟩), (2, .bool fold), (3, .int .i64 ix), (23, .bool (!lb))] fun TA => ?_
 refine W.cond rfl (fun hc1 => ?_) (fun hc1 => ?_)
 ·have hc1b := hc1
  refine W.seq (W.region ?_)
  refine RW.cl ?_
  refine ⟨_, _, (CK _ fun b y h => H.old _ _ (le0 b y h)), ?_⟩
  refine RW.v ?_
  refine RW.nil ?_
  refine W.ret ?_
  refine seqQ_ret ?_
  refine endG (by rfl) (by exact resL_tmp rfl) ?_
  exact rfl
 ·have hc1b := hc1
  obtain ⟨hl40, hx60, hs60⟩ := hlb (by simpa using hc1b)
  have hl : l.length ≤ 1000000 := by omega
  have hsm : ∀ x ∈ l, x.length ≤ 1000000 := fun x hx => Nat.le_trans (hx60 x hx) (by decide)
  have hs : s.length ≤ 1000000 := by omega
  have hsmB : ∀ x ∈ l, x.length ≤ 60000 := fun x hx => Nat.le_trans (hx60 x hx) (by decide)
  have hsB : s.length ≤ 60000 := by omega
  refine W.skip ?_
  refine W.seq (W.region ?_)
  refine RW.v ?_
  refine RW.cl ?_
  refine ((own_wcS (h1.le le0) hl H).mono ?_)
  clear H
  rintro iv _ ⟨F, le, hin, H⟩
  replace le0 := fun b y h => le b y (le0 b y h)
  obtain ⟨Z, hZ⟩ : ∃ Z, Z = partC fold l s := ⟨_, rfl⟩
  have hZl : Z.length ≤ 1000000 := by rw [hZ]; exact Nat.le_trans partC_len hl
  obtain ⟨t, ht⟩ : ∃ t, t = tryP fold l s := ⟨_, rfl⟩
  obtain ⟨n, hn⟩ : ∃ n, n = statusC fold (partC fold l s) s := ⟨_, rfl⟩
  obtain ⟨x1, hx1⟩ : ∃ x1, x1 = (boundsC s ix).1 := ⟨_, rfl⟩
  obtain ⟨x2, hx2⟩ : ∃ x2, x2 = (boundsC s ix).2.1 := ⟨_, rfl⟩
  obtain ⟨x3, hx3⟩ : ∃ x3, x3 = (boundsC s ix).2.2 := ⟨_, rfl⟩
  refine RW.v ?_
  refine RW.nil ?_
  refine W.rg [(0, v1), (1, .string ⟨s.toArray⟩), (2, .bool fold), (3, .int .i64 ix), (9, iv)] fun TA => ?_
  refine W.seq (W.region ?_)
  iterate 3 refine RW.v ?_
  refine RW.cl ?_
  refine ((TryPartial_wc (fold := fold) (hU.le le0) h16 hin hl hx60 (Nat.le_trans hs60 (by decide)) H).mono ?_)
  clear H
  rintro _ _ ⟨rfl, H⟩
  rw [← ht, ← hn]
  iterate 5 refine RW.v ?_
  refine RW.nil ?_
  refine W.rg [(0, v1), (1, .string ⟨s.toArray⟩), (2, .bool fold), (3, .int .i64 ix), (9, iv), (10, .string ⟨t.toArray⟩), (11, .int .i64 n)] fun TA => ?_
  refine W.seq (W.region ?_)
  iterate 3 refine RW.v ?_
  refine RW.cl ?_
  refine ((r_tryp (fold := fold) (h1.le le0) hl hx60 hs60 H).mono ?_)
  clear H
  rintro _ _ ⟨rfl, H⟩
  rw [← ht, ← hn]
  iterate 5 refine RW.v ?_
  refine RW.nil ?_
  refine W.rg [(0, v1), (1, .string ⟨s.toArray⟩), (2, .bool fold), (3, .int .i64 ix), (9, iv), (10, .string ⟨t.toArray⟩), (11, .int .i64 n), (12, .string ⟨t.toArray⟩), (13, .int .i64 n)] fun TA => ?_
  refine W.seq (W.region ?_)
  iterate 2 refine RW.v ?_
  refine RW.cl ?_
  refine ((Bounds_wc (ix := ix) (hU.le le0) h16 hs H).mono ?_)
  clear H
  rintro _ _ ⟨rfl, H⟩
  rw [← hx1, ← hx2, ← hx3]
  iterate 7 refine RW.v ?_
  refine RW.nil ?_
  refine W.rg [(0, v1), (1, .string ⟨s.toArray⟩), (2, .bool fold), (3, .int .i64 ix), (9, iv), (10, .string ⟨t.toArray⟩), (11, .int .i64 n), (12, .string ⟨t.toArray⟩), (13, .int .i64 n), (14, .int .i64 x1), (15, .int .i64 x2), (16, .int .i64 x3)] fun TA => ?_
  refine W.seq (W.region ?_)
  iterate 2 refine RW.v ?_
  refine RW.cl ?_
  refine ((r_bounds (ix := ix) hs H).mono ?_)
  clear H
  rintro _ _ ⟨rfl, H⟩
  rw [← hx1, ← hx2, ← hx3]
  iterate 7 refine RW.v ?_
  refine RW.nil ?_
  refine W.rg [(0, v1), (1, .string ⟨s.toArray⟩), (2, .bool fold), (9, iv), (10, .string ⟨t.toArray⟩), (11, .int .i64 n), (12, .string ⟨t.toArray⟩), (13, .int .i64 n), (14, .int .i64 x1), (15, .int .i64 x2), (16, .int .i64 x3), (17, .int .i64 x1), (18, .int .i64 x2), (19, .int .i64 x3)] fun TA => ?_
  refine W.seq (W.region ?_)
  iterate 2 refine RW.v ?_
  refine RW.vop (v := .bool true) (by kernel_rfl) (by kernel_rfl) (vop_sEq rfl rfl rfl (beq_self_eq_true _)) (by kernel_rfl) ?_
  refine RW.v ?_
  refine RW.val (by rfl) (by kernel_rfl) rfl (by kernel_rfl) ?_
  refine RW.val (by rfl) (by kernel_rfl) rfl (by kernel_rfl) ?_
  refine RW.valE (v' := .bool true) (by rfl) (by kernel_rfl) rfl (congrArg Value.bool (beq_iff_eq.2 (by rfl))) (by kernel_rfl) ?_
  iterate 2 refine RW.v ?_
  refine RW.val (by rfl) (by kernel_rfl) rfl (by kernel_rfl) ?_
  refine RW.val (by rfl) (by kernel_rfl) rfl (by kernel_rfl) ?_
  refine RW.valE (v' := .bool true) (by rfl) (by kernel_rfl) rfl (congrArg Value.bool (beq_iff_eq.2 (by rfl))) (by kernel_rfl) ?_
  iterate 2 refine RW.v ?_
  refine RW.val (by rfl) (by kernel_rfl) rfl (by kernel_rfl) ?_
  refine RW.val (by rfl) (by kernel_rfl) rfl (by kernel_rfl) ?_
  refine RW.valE (v' := .bool true) (by rfl) (by kernel_rfl) rfl (congrArg Value.bool (beq_iff_eq.2 (by rfl))) (by kernel_rfl) ?_
  iterate 2 refine RW.v ?_
  refine RW.val (by rfl) (by kernel_rfl) rfl (by kernel_rfl) ?_
  refine RW.val (by rfl) (by kernel_rfl) rfl (by kernel_rfl) ?_
  refine RW.valE (v' := .bool true) (by rfl) (by kernel_rfl) rfl (congrArg Value.bool (beq_iff_eq.2 (by rfl))) (by kernel_rfl) ?_
  iterate 2 refine RW.v ?_
  refine RW.val (by rfl) (by kernel_rfl) rfl (by kernel_rfl) ?_
  refine RW.val (by rfl) (by kernel_rfl) rfl (by kernel_rfl) ?_
  refine RW.val (by rfl) (by kernel_rfl) rfl (by kernel_rfl) ?_
  refine RW.cl (hw := by rfl) ?_
  refine ((Partial_wc (fold := fold) (hU.le le0) h16 hin hl hsm (Nat.le_trans hs60 (by decide)) H).mono ?_)
  clear H
  rintro u1 _ ⟨F, le, hu1, H⟩
  replace le0 := fun b y h => le b y (le0 b y h)
  replace hin := hin.le le
  rw [← hZ] at hu1
  refine RW.val (by rfl) (by kernel_rfl) rfl (by kernel_rfl) ?_
  refine RW.val (by rfl) (by kernel_rfl) rfl (by kernel_rfl) ?_
  refine RW.val (by rfl) (by kernel_rfl) rfl (by kernel_rfl) ?_
  refine RW.cl (hw := by rfl) ?_
  refine ((r_partial (fold := fold) (h1.le le0) hl hsmB hsB H).mono ?_)
  clear H
  rintro u2 _ ⟨F, le, hu2, H⟩
  replace le0 := fun b y h => le b y (le0 b y h)
  replace hin := hin.le le
  replace hu1 := hu1.le le
  rw [← hZ] at hu2
  refine RW.cl (hw := by rfl) ?_
  refine ((same_wcS hu1 hu2 hZl H).mono ?_)
  clear H
  rintro vq _ ⟨hvq, H⟩
  replace hvq := hvq.trans (congrArg Value.bool (decide_eq_true (rfl : Z = Z)))
  subst hvq
  iterate 2 refine RW.v ?_
  refine RW.val (by rfl) (by kernel_rfl) rfl (by kernel_rfl) ?_
  refine RW.val (by rfl) (by kernel_rfl) rfl (by kernel_rfl) ?_
  refine RW.cl (hw := by rfl) ?_
  refine ((same_wcS hin (h1.le le0) hl H).mono ?_)
  clear H
  rintro vq _ ⟨hvq, H⟩
  replace hvq := hvq.trans (congrArg Value.bool (decide_eq_true (rfl : l = l)))
  subst hvq
  iterate 2 refine RW.v ?_
  refine RW.cl (hw := by rfl) ?_
  refine ⟨_, _, (CK _ fun b y h => H.old _ _ (le0 b y h)), ?_⟩
  iterate 2 refine RW.v ?_
  refine RW.nil ?_
  refine W.ret ?_
  refine endG (by rfl) (by exact resL_tmp rfl) ?_
  exact rfl
end Go.Proofs.YtjcmdifpkafdkaaDoor
