/-
 Sort. Conditions: the tables of unicode/utf8 lie.
-/
import Derived.Test.YtjcmdifpkafdkaaDoorCwf
import Derived.Test.YtjcmdifpkafdkaaDoorCvg
import Derived.Test.YtjcmdifpkafdkaaDoorCpf
namespace Go.Proofs.YtjcmdifpkafdkaaDoor
open Go.Lib
set_option maxRecDepth 100000
def sortC (l rc : List (List UInt8)) : List (List UInt8) := (distM rc).filter (fun x => decide (x ∈ distM l)) ++ sortL ltS ((distM l).filter fun y => !decide (y ∈ (distM rc).filter fun x => decide (x ∈ distM l)))
section
variable {G : Nat} {A : Abs} {σ : Mem} {F : Nat → Option Blk2} {L : List Ent} {l rc : List (List UInt8)} {v1 v2 : Value}
set_option maxHeartbeats 16000000 in
theorem Sort_wc (hU : U8F F) (h16 : 16 ≤ G) (h1 : SlF F 1 v1 l.length (l.map strV)) (h2 : SlF F 1 v2 rc.length (rc.map strV)) (hl : l.length ≤ 40) (hlr : rc.length ≤ 40) (hsm : ∀ s ∈ l, s.length ≤ 1000000) (hrm : ∀ s ∈ rc, s.length ≤ 1000000) (H : Lies G A F σ L) : WC G Tryd.prog 32 #[v1, v2] σ fun v σ' => ∃ F', Le F F' ∧ SlF F' 1 v (sortC l rc).length ((sortC l rc).map strV) ∧ Lies G A F' σ' L := by
 obtain ⟨F0, hF⟩ : ∃ F0, F0 = F := ⟨_, rfl⟩
 have le0 : Le F0 F := fun b y h => hF ▸ h
 rw [← hF] at h1 h2 hU ⊢
 refine WC.enter (fn := Tryd.f32) Tryd.func32 rfl ?_
 refine W.rg [(0, v1), (1, v2)] fun TA => ?_
 refine W.seq (W.region ?_)
 refine RW.v ?_
 refine RW.nil ?_
 refine W.rg [(0, v1), (1, v2)] fun TA => ?_
 refine W.seq (W.region ?_)
 refine RW.v ?_
 refine RW.cl ?_
 refine WC.enter (fn := Tryd.f58) Tryd.func58 rfl ?_
 refine W.rg [(0, v1)] fun TA => ?_
 refine W.seq (W.region ?_)
 refine RW.mk H (.row ⟨(v1).cells.toList, 22, false⟩) ?_
 clear H; intro _ b1 _ H
 rw [(slf_one (h1.le le0))] at H
 refine RW.v ?_
 refine RW.nil ?_
 refine W.rg [(1, .pointer (some ⟨b1, 0, none⟩))] fun TA => ?_
 refine W.seq (W.region ?_)
 refine RW.val (v := .func (.func 95) #[] #[.pointer (some ⟨b1, 0, none⟩)]) (by kernel_rfl) (by kernel_rfl) (by kernel_rfl) (by kernel_rfl) ?_
 refine RW.v ?_
 refine RW.nil ?_
 refine W.ret ?_
 refine endG (by rfl) (by exact resL_tmp rfl) ?_
 refine RW.cl ?_
 refine WC.enter (fn := Tryd.f56) Tryd.func56 rfl ?_
 refine W.rg [(0, .func (.func 95) #[] #[.pointer (some ⟨b1, 0, none⟩)])] fun TA => ?_
 refine W.seq (W.region ?_)
 refine RW.v ?_
 refine RW.nil ?_
 refine W.rg [(0, .func (.func 95) #[] #[.pointer (some ⟨b1, 0, none⟩)])] fun TA => ?_
 refine W.seq (W.region ?_)
 refine RW.v ?_
 refine RW.cl ?_
 refine WC.enterD (fn := Tryd.f93) Tryd.func93 rfl ?_
 refine W.rg [(0, .slice none 0 0), (1, .func (.func 95) #[] #[.pointer (some ⟨b1, 0, none⟩)])] fun TA => ?_
 refine W.seq (W.region ?_)
 refine RW.mk H (.row ⟨[.slice none 0 0], 22, false⟩) ?_
 clear H; intro _ b2 _ H
 refine RW.v ?_
 refine RW.nil ?_
 refine W.rg [(1, .func (.func 95) #[] #[.pointer (some ⟨b1, 0, none⟩)]), (2, .pointer (some ⟨b2, 0, none⟩))] fun TA => ?_
 refine W.seq ?_
 refine W.seq (W.region ?_)
 refine RW.v ?_
 refine RW.nil ?_
 refine W.rg [(2, .pointer (some ⟨b2, 0, none⟩)), (6, .func (.func 95) #[] #[.pointer (some ⟨b1, 0, none⟩)])] fun TA => ?_
 refine W.block ?_
 refine W.rst [(2, .pointer (some ⟨b2, 0, none⟩)), (6, .func (.func 95) #[] #[.pointer (some ⟨b1, 0, none⟩)])] ⟨rfl, rfl, trivial⟩ fun TL7 => ?_
 refine W.rangeL H rfl (fun _ h => nomatch h) (fun _ h => nomatch h) (by kernel_rfl) fun _ d3 b4 lp5 hl6 H => ?_
 refine WC.enter (fn := Tryd.f95) Tryd.func95 rfl ?_
 refine W.rg [(0, .func (.yield b4) #[] #[]), (1, .pointer (some ⟨b1, 0, none⟩))] fun TA => ?_
 refine W.seq (W.region ?_)
 refine RW.mkM H ?_
 clear H; intro _ b8 _ H
 refine RW.v ?_
 refine RW.nil ?_
 refine W.rg [(0, .func (.yield b4) #[] #[]), (1, .pointer (some ⟨b1, 0, none⟩)), (3, .map (some b8))] fun TA => ?_
 refine W.seq (W.region ?_)
 refine RW.ld H 4 1 ?_
 refine RW.len (by kernel_rfl) (by kernel_rfl) rfl rfl rfl rfl ((h1.le le0).len (e := 9) (by kernel_rfl)) (by kernel_rfl) ?_
 refine RW.v ?_
 refine RW.nil ?_
 refine W.rg [(0, .func (.yield b4) #[] #[]), (3, .map (some b8)), (7, v1), (8, .int .i64 (l.length : Int)), (9, .int .i64 0)] fun TA => ?_
 refine W.block ?_
 replace H := H.nilSl 9 1
 obtain ⟨T1, hTd1⟩ : ∃ T, T = distM l := ⟨_, rfl⟩
 have hT0 : T1 = [] ++ distG [] (l.drop 0) := hTd1
 refine W.loop (fun mm ta σ => ∃ (i : Nat) (seen : List (List UInt8)) (acc1 : List (List UInt8)) (u1 : Value), (mm + i = l.length) ∧ (acc1.length ≤ i) ∧ (T1 = acc1 ++ distG seen (l.drop i)) ∧ Lies G A F σ (.sl 9 1 u1 acc1.length (acc1.map strV) :: .at_ b8 (.ents (seenE seen) seen.length) :: .at_ b4 lp5 :: .at_ d3 (.defs true) :: .at_ b2 (.row ⟨[u1], 22, false⟩) :: .at_ b1 (.row ⟨[v1], 22, false⟩) :: (L)) ∧ ta 0 = .func (.yield b4) #[] #[] ∧ ta 3 = .map (some b8) ∧ ta 7 = v1 ∧ ta 8 = .int .i64 (l.length : Int) ∧ ta 9 = .int .i64 ((i : Nat) : Int)) l.length ?_ ?_
 ·exact ⟨0, [], [], .slice none 0 0, (by omega), (Nat.zero_le _), hT0, H, rfl, rfl, rfl, rfl, rfl⟩
 clear H
 rintro mm ta _ ⟨i, seen, acc1, u1, hm, hac, hT, H, e0, e3, e7, e8, e9⟩
 refine W.rst [(0, .func (.yield b4) #[] #[]), (3, .map (some b8)), (7, v1), (8, .int .i64 (l.length : Int)), (9, .int .i64 ((i : Nat) : Int))] ⟨e0, e3, e7, e8, e9, trivial⟩ fun TA => ?_
 clear e0 e3 e7 e8 e9
 refine W.seq (W.region ?_)
 refine RW.v ?_
 refine RW.nil ?_
 refine W.rg [(0, .func (.yield b4) #[] #[]), (3, .map (some b8)), (7, v1), (8, .int .i64 (l.length : Int)), (9, .int .i64 ((i : Nat) : Int)), (10, .bool (decide (((i : Nat) : Int) < (l.length : Int))))] fun TA => ?_
 refine W.seq ?_
 refine W.cond rfl (fun hc9 => ?_) (fun hc9 => ?_)
 ·have hc9b := hc9
  have hc9 := of_decide_eq_true hc9
  have hil : i < l.length := by omega
  refine W.skip ?_
  refine W.seq ?_
  refine W.block ?_
  refine W.seq (W.region ?_)
  refine RW.idxF (h1.le le0) (by kernel_rfl) (by kernel_rfl) rfl Tryd.underlying22 (by kernel_rfl) rfl rfl ⟨by omega, by omega⟩ (by kernel_rfl) ?_
  intro b10 q11 r12 hF13 hE14
  rw [strs_at (l := l) (j := i) (i := ((i : Nat) : Int)) (by omega) (by omega)] at hE14
  refine RW.loads 1 (by kernel_rfl) (by kernel_rfl) rfl rfl (H.old _ _ hF13) hE14 rfl (by kernel_rfl) ?_
  refine RW.v ?_
  refine RW.nil ?_
  refine W.rg [(0, .func (.yield b4) #[] #[]), (3, .map (some b8)), (5, .string ⟨(l.getD i []).toArray⟩), (7, v1), (8, .int .i64 (l.length : Int)), (9, .int .i64 ((i : Nat) : Int))] fun TA => ?_
  refine W.seq ?_
  refine W.seq (W.region ?_)
  iterate 2 refine RW.v ?_
  refine RW.lkL H 1 (.bool (decide ((l.getD i []) ∈ seen))) ?_ (hv := look_seen rfl rfl (by kernel_rfl))
  refine RW.v ?_
  refine RW.both _ _ rfl rfl rfl (fun hc15 => ?_) (fun hc15 => ?_)
  ·have hc15b := hc15
   have hc15 := of_decide_eq_true hc15
   have hskip : (l.getD i []) ∈ seen ∨ validD (l.getD i []) = false := .inl hc15
   iterate 3 refine RW.s ?_
   refine RW.v ?_
   refine RW.nil ?_
   refine W.c1 ?_
   refine W.exit _ ?_
   refine seqQ_exit ?_
   refine blkQ_here ?_
   refine W.region ?_
   refine RW.valE (v' := .int .i64 (((i : Nat) : Int) + 1)) (by kernel_rfl) (by kernel_rfl) rfl (congrArg (Value.int .i64) (wrap_in (by omega) (by omega))) (by kernel_rfl) ?_
   refine RW.v ?_
   refine RW.nil ?_
   exact ⟨rfl, mm - 1, by omega, i + 1, seen, acc1, u1, (by omega), (by omega), (by rw [hT, dist_skip hil hskip]), H, rfl, rfl, rfl, rfl, rfl⟩
  ·have hc15b := hc15
   have hc15 := of_decide_eq_false hc15
   have hnew := hc15
   refine RW.w ?_
   refine RW.cl (hw := by rfl) ?_
   refine ⟨_, _, (s_valid (hU.le (fun b y h => H.old _ _ (le0 b y h))) h16 (hsm _ (mem_of (by omega)))), ?_⟩
   refine RW.w ?_
   refine RW.v ?_
   refine RW.nil ?_
   refine W.rg [(0, .func (.yield b4) #[] #[]), (3, .map (some b8)), (5, .string ⟨(l.getD i []).toArray⟩), (7, v1), (8, .int .i64 (l.length : Int)), (9, .int .i64 ((i : Nat) : Int)), (20, .bool (!(validD (l.getD i []))))] fun TA => ?_
   refine W.cond rfl (fun hc16 => ?_) (fun hc16 => ?_)
   ·have hc16b := hc16
    have hval : validD (l.getD i []) = false := by simpa using hc16b
    have hskip : (l.getD i []) ∈ seen ∨ validD (l.getD i []) = false := .inr hval
    refine W.exit _ ?_
    refine seqQ_exit ?_
    refine blkQ_here ?_
    refine W.region ?_
    refine RW.valE (v' := .int .i64 (((i : Nat) : Int) + 1)) (by kernel_rfl) (by kernel_rfl) rfl (congrArg (Value.int .i64) (wrap_in (by omega) (by omega))) (by kernel_rfl) ?_
    refine RW.v ?_
    refine RW.nil ?_
    exact ⟨rfl, mm - 1, by omega, i + 1, seen, acc1, u1, (by omega), (by omega), (by rw [hT, dist_skip hil hskip]), H, rfl, rfl, rfl, rfl, rfl⟩
   ·have hc16b := hc16
    have hval : validD (l.getD i []) = true := by simpa using hc16b
    refine W.skip ?_
    refine W.seq (W.region ?_)
    iterate 2 refine RW.v ?_
    refine RW.upL H 1 (seenE (seen ++ [(l.getD i [])])) (seen.length + 1) ?_ (hv := upd_seen rfl rfl hnew)
    clear H; intro _ _ H; dsimp only [setL, delL] at H
    refine RW.nil ?_
    refine W.rg [(0, .func (.yield b4) #[] #[]), (3, .map (some b8)), (5, .string ⟨(l.getD i []).toArray⟩), (7, v1), (8, .int .i64 (l.length : Int)), (9, .int .i64 ((i : Nat) : Int))] fun TA => ?_
    refine W.seq (W.region ?_)
    iterate 2 refine RW.v ?_
    refine RW.yieldL H 2 rfl hl6 (by kernel_rfl) (by kernel_rfl) rfl rfl rfl rfl rfl (by kernel_rfl) ?_
    refine W.rg [(2, .pointer (some ⟨b2, 0, none⟩)), (6, .func (.func 95) #[] #[.pointer (some ⟨b1, 0, none⟩)]), (7, .string ⟨(l.getD i []).toArray⟩)] fun TA => ?_
    refine W.region ?_
    refine RW.v ?_
    refine RW.nil ?_
    refine ⟨rfl, _, _, _, 2, H, rfl, ?_⟩
    clear H; intro _ lq17 hq18 H
    dsimp only [setL, delL] at H
    refine W.rg [(2, .pointer (some ⟨b2, 0, none⟩)), (5, .string ⟨(l.getD i []).toArray⟩), (6, .func (.func 95) #[] #[.pointer (some ⟨b1, 0, none⟩)]), (7, .string ⟨(l.getD i []).toArray⟩)] fun TA => ?_
    refine W.block ?_
    refine W.region ?_
    refine RW.ld H 4 1 ?_
    refine RW.v ?_
    refine RW.mkL H (x := .row ⟨[.string ⟨(l.getD i []).toArray⟩], 9, false⟩) (fm := fun b => .slice (some ⟨b, 0, none⟩) 1 1) (by kernel_rfl) (by kernel_rfl) (by kernel_rfl) (by kernel_rfl) ?_
    clear H; intro _ b19 _ H
    refine RW.appL H 1 0 (n := 1) (e2 := 9) (by kernel_rfl) (by kernel_rfl) rfl rfl rfl rfl rfl rfl rfl rfl (by kernel_rfl) (by kernel_rfl) (by kernel_rfl) (by decide) (by decide) rfl rfl (by omega) (by kernel_rfl) ?_
    clear H; intro _ v20 _ H
    dsimp only [setL, delL] at H
    refine RW.stL H 4 (vs := [v20]) (cs' := [v20]) (by kernel_rfl) (by kernel_rfl) rfl rfl rfl (H.sl 0 rfl).one (gr_all (H.sl 0 rfl)) (by kernel_rfl) (Nat.le_of_ble_eq_true rfl) rfl (by kernel_rfl) ?_
    clear H; intro _ _ H; dsimp only [setL, delL] at H
    refine RW.nil ?_
    refine bQn ?_
    refine ⟨_, _, _, 2, true, .ready, none, H, rfl, rfl, ?_⟩
    clear H; intro _ lr21 _ hr22 H
    dsimp only [setL, delL] at H
    refine RW.v ?_
    refine RW.nil ?_
    refine W.c0 ?_
    refine W.skip ?_
    refine bQn ?_
    refine W.region ?_
    refine RW.valE (v' := .int .i64 (((i : Nat) : Int) + 1)) (by kernel_rfl) (by kernel_rfl) rfl (congrArg (Value.int .i64) (wrap_in (by omega) (by omega))) (by kernel_rfl) ?_
    refine RW.v ?_
    refine RW.nil ?_
    rw [show lr21 = lp5 from hr22.trans hl6.symm] at H
    rw [show seen.length + 1 = (seen ++ [(l.getD i [])]).length by rw [List.length_append]; rfl] at H
    rw [acc_snoc (acc := acc1) (x := (l.getD i []))] at H
    rw [show acc1.length + 1 = (acc1 ++ [(l.getD i [])]).length by rw [List.length_append]; rfl] at H
    exact ⟨rfl, mm - 1, by omega, i + 1, (seen ++ [(l.getD i [])]), (acc1 ++ [(l.getD i [])]), v20, (by omega), (by rw [List.length_append, List.length_singleton]; omega), (by rw [hT, dist_take hil hnew hval, List.append_assoc]; rfl), H, rfl, rfl, rfl, rfl, rfl⟩
 ·have hc9b := hc9
  have hc9 := of_decide_eq_false hc9
  refine W.exit _ ?_
  refine seqQ_exit ?_
  refine rndQ_exit ?_
  have hR1 : T1 = acc1 := by rw [hT, List.drop_eq_nil_of_le (by omega)]; exact List.append_nil _
  have hL1 : acc1.length ≤ l.length := by omega
  refine blkQ_here ?_
  refine endG (by rfl) (by exact rfl) ?_
  refine ⟨_, _, _, 2, _, _, _, _, H, rfl, hl6, rfl, rfl, ?_⟩
  clear H; intro _ H
  dsimp only [setL, delL] at H
  refine bQn ?_
  refine W.seq (W.region ?_)
  refine RW.ld H 3 1 ?_
  refine RW.v ?_
  refine RW.nil ?_
  replace H := ((H.del 3).del 1)
  dsimp only [setL, delL] at H
  refine W.ret ?_
  refine endMark H 1 rfl fun _ H => ?_
  dsimp only [setL, delL] at H
  refine endGD0 (by rfl) (by exact resL_tmp rfl) ?_
  refine RW.v ?_
  refine RW.nil ?_
  refine W.ret ?_
  refine endG (by rfl) (by exact resL_tmp rfl) ?_
  rw [← rowS_map acc1] at H
  refine RW.mk H (.row ⟨[.slice none 0 0], 22, false⟩) ?_
  clear H; intro _ b23 _ H
  refine RW.stL H 0 (vs := [u1]) (cs' := [u1]) (by kernel_rfl) (by kernel_rfl) rfl rfl rfl (H.sl 1 rfl).one (gr_all (H.sl 1 rfl)) (by kernel_rfl) (Nat.le_of_ble_eq_true rfl) rfl (by kernel_rfl) ?_
  clear H; intro _ _ H; dsimp only [setL, delL] at H
  refine RW.nil ?_
  replace H := (H.del 2)
  dsimp only [setL, delL] at H
  refine W.rg [(1, v2), (5, .pointer (some ⟨b23, 0, none⟩))] fun TA => ?_
  refine W.seq (W.region ?_)
  refine RW.v ?_
  refine RW.cl ?_
  refine WC.enter (fn := Tryd.f58) Tryd.func58 rfl ?_
  refine W.rg [(0, v2)] fun TA => ?_
  refine W.seq (W.region ?_)
  refine RW.mk H (.row ⟨(v2).cells.toList, 22, false⟩) ?_
  clear H; intro _ b24 _ H
  rw [(slf_one (h2.le le0))] at H
  refine RW.v ?_
  refine RW.nil ?_
  refine W.rg [(1, .pointer (some ⟨b24, 0, none⟩))] fun TA => ?_
  refine W.seq (W.region ?_)
  refine RW.val (v := .func (.func 95) #[] #[.pointer (some ⟨b24, 0, none⟩)]) (by kernel_rfl) (by kernel_rfl) (by kernel_rfl) (by kernel_rfl) ?_
  refine RW.v ?_
  refine RW.nil ?_
  refine W.ret ?_
  refine endG (by rfl) (by exact resL_tmp rfl) ?_
  refine RW.val (v := .func (.func 74) #[] #[.pointer (some ⟨b23, 0, none⟩)]) (by kernel_rfl) (by kernel_rfl) (by kernel_rfl) (by kernel_rfl) ?_
  refine RW.cl ?_
  refine WC.enter (fn := Tryd.f57) Tryd.func57 rfl ?_
  refine W.rg [(0, .func (.func 95) #[] #[.pointer (some ⟨b24, 0, none⟩)]), (1, .func (.func 74) #[] #[.pointer (some ⟨b23, 0, none⟩)])] fun TA => ?_
  refine W.seq (W.region ?_)
  refine RW.mk H (.row ⟨[.func (.func 95) #[] #[pt b24]], 71, false⟩) ?_
  clear H; intro _ b25 _ H
  refine RW.mk H (.row ⟨[.func (.func 74) #[] #[pt b23]], 41, false⟩) ?_
  clear H; intro _ b26 _ H
  refine RW.v ?_
  refine RW.nil ?_
  refine W.rg [(2, .pointer (some ⟨b25, 0, none⟩)), (3, .pointer (some ⟨b26, 0, none⟩))] fun TA => ?_
  refine W.seq (W.region ?_)
  refine RW.val (v := .func (.func 94) #[] #[.pointer (some ⟨b25, 0, none⟩), .pointer (some ⟨b26, 0, none⟩)]) (by kernel_rfl) (by kernel_rfl) (by kernel_rfl) (by kernel_rfl) ?_
  refine RW.v ?_
  refine RW.nil ?_
  refine W.ret ?_
  refine endG (by rfl) (by exact resL_tmp rfl) ?_
  refine RW.cl ?_
  refine WC.enter (fn := Tryd.f56) Tryd.func56 rfl ?_
  refine W.rg [(0, .func (.func 94) #[] #[.pointer (some ⟨b25, 0, none⟩), .pointer (some ⟨b26, 0, none⟩)])] fun TA => ?_
  refine W.seq (W.region ?_)
  refine RW.v ?_
  refine RW.nil ?_
  refine W.rg [(0, .func (.func 94) #[] #[.pointer (some ⟨b25, 0, none⟩), .pointer (some ⟨b26, 0, none⟩)])] fun TA => ?_
  refine W.seq (W.region ?_)
  refine RW.v ?_
  refine RW.cl ?_
  refine WC.enterD (fn := Tryd.f93) Tryd.func93 rfl ?_
  refine W.rg [(0, .slice none 0 0), (1, .func (.func 94) #[] #[.pointer (some ⟨b25, 0, none⟩), .pointer (some ⟨b26, 0, none⟩)])] fun TA => ?_
  refine W.seq (W.region ?_)
  refine RW.mk H (.row ⟨[.slice none 0 0], 22, false⟩) ?_
  clear H; intro _ b27 _ H
  refine RW.v ?_
  refine RW.nil ?_
  refine W.rg [(1, .func (.func 94) #[] #[.pointer (some ⟨b25, 0, none⟩), .pointer (some ⟨b26, 0, none⟩)]), (2, .pointer (some ⟨b27, 0, none⟩))] fun TA => ?_
  refine W.seq ?_
  refine W.seq (W.region ?_)
  refine RW.v ?_
  refine RW.nil ?_
  refine W.rg [(2, .pointer (some ⟨b27, 0, none⟩)), (6, .func (.func 94) #[] #[.pointer (some ⟨b25, 0, none⟩), .pointer (some ⟨b26, 0, none⟩)])] fun TA => ?_
  refine W.block ?_
  refine W.rst [(2, .pointer (some ⟨b27, 0, none⟩)), (6, .func (.func 94) #[] #[.pointer (some ⟨b25, 0, none⟩), .pointer (some ⟨b26, 0, none⟩)])] ⟨rfl, rfl, trivial⟩ fun TL32 => ?_
  refine W.rangeL H rfl (fun _ h => nomatch h) (fun _ h => nomatch h) (by kernel_rfl) fun _ d28 b29 lp30 hl31 H => ?_
  refine WC.enterD (fn := Tryd.f94) Tryd.func94 rfl ?_
  refine W.rg [(0, .func (.yield b29) #[] #[]), (1, .pointer (some ⟨b25, 0, none⟩)), (2, .pointer (some ⟨b26, 0, none⟩))] fun TA => ?_
  refine W.seq (W.region ?_)
  refine RW.mk H (.row ⟨[.func (.yield b29) #[] #[]], 41, false⟩) ?_
  clear H; intro _ b33 _ H
  refine RW.nil ?_
  refine W.rg [(1, .pointer (some ⟨b25, 0, none⟩)), (2, .pointer (some ⟨b26, 0, none⟩)), (3, .pointer (some ⟨b33, 0, none⟩))] fun TA => ?_
  refine W.seq (W.region ?_)
  refine RW.ld H 5 1 ?_
  refine RW.nil ?_
  refine W.rg [(2, .pointer (some ⟨b26, 0, none⟩)), (3, .pointer (some ⟨b33, 0, none⟩)), (5, .func (.func 95) #[] #[.pointer (some ⟨b24, 0, none⟩)])] fun TA => ?_
  refine W.block ?_
  refine W.rst [(2, .pointer (some ⟨b26, 0, none⟩)), (3, .pointer (some ⟨b33, 0, none⟩)), (5, .func (.func 95) #[] #[.pointer (some ⟨b24, 0, none⟩)])] ⟨rfl, rfl, rfl, trivial⟩ fun TL38 => ?_
  refine W.rangeL H rfl (fun _ h => nomatch h) (fun _ h => nomatch h) (by kernel_rfl) fun _ d34 b35 lp36 hl37 H => ?_
  refine WC.enter (fn := Tryd.f95) Tryd.func95 rfl ?_
  refine W.rg [(0, .func (.yield b35) #[] #[]), (1, .pointer (some ⟨b24, 0, none⟩))] fun TA => ?_
  refine W.seq (W.region ?_)
  refine RW.mkM H ?_
  clear H; intro _ b39 _ H
  refine RW.v ?_
  refine RW.nil ?_
  refine W.rg [(0, .func (.yield b35) #[] #[]), (1, .pointer (some ⟨b24, 0, none⟩)), (3, .map (some b39))] fun TA => ?_
  refine W.seq (W.region ?_)
  refine RW.ld H 9 1 ?_
  refine RW.len (by kernel_rfl) (by kernel_rfl) rfl rfl rfl rfl ((h2.le le0).len (e := 9) (by kernel_rfl)) (by kernel_rfl) ?_
  refine RW.v ?_
  refine RW.nil ?_
  refine W.rg [(0, .func (.yield b35) #[] #[]), (3, .map (some b39)), (7, v2), (8, .int .i64 (rc.length : Int)), (9, .int .i64 0)] fun TA => ?_
  refine W.block ?_
  replace H := H.nilSl 9 1
  obtain ⟨T2, hTd2⟩ : ∃ T, T = (distM rc).filter (fun x => decide (x ∈ acc1)) := ⟨_, rfl⟩
  have hT0 : T2 = [] ++ (distG [] (rc.drop 0)).filter (fun x => decide (x ∈ acc1)) := hTd2
  refine W.loop (fun mm ta σ => ∃ (i : Nat) (seen : List (List UInt8)) (acc2 : List (List UInt8)) (u2 : Value), (mm + i = rc.length) ∧ (acc2.length ≤ i) ∧ (T2 = acc2 ++ (distG seen (rc.drop i)).filter (fun x => decide (x ∈ acc1))) ∧ Lies G A F σ (.sl 9 1 u2 acc2.length (acc2.map strV) :: .at_ b39 (.ents (seenE seen) seen.length) :: .at_ b35 lp36 :: .at_ d34 (.defs true) :: .at_ b33 (.row ⟨[.func (.yield b29) #[] #[]], 41, false⟩) :: .at_ b29 lp30 :: .at_ d28 (.defs true) :: .at_ b27 (.row ⟨[u2], 22, false⟩) :: .at_ b26 (.row ⟨[.func (.func 74) #[] #[.pointer (some ⟨b23, 0, none⟩)]], 41, false⟩) :: .at_ b25 (.row ⟨[.func (.func 95) #[] #[.pointer (some ⟨b24, 0, none⟩)]], 71, false⟩) :: .at_ b24 (.row ⟨[v2], 22, false⟩) :: .at_ b23 (.row ⟨[u1], 22, false⟩) :: .sl 9 1 u1 acc1.length (rowX celS acc1) :: (L)) ∧ ta 0 = .func (.yield b35) #[] #[] ∧ ta 3 = .map (some b39) ∧ ta 7 = v2 ∧ ta 8 = .int .i64 (rc.length : Int) ∧ ta 9 = .int .i64 ((i : Nat) : Int)) rc.length ?_ ?_
  ·exact ⟨0, [], [], .slice none 0 0, (by omega), (Nat.zero_le _), hT0, H, rfl, rfl, rfl, rfl, rfl⟩
  clear H
  rintro mm ta _ ⟨i, seen, acc2, u2, hm, hac, hT, H, e0, e3, e7, e8, e9⟩
  refine W.rst [(0, .func (.yield b35) #[] #[]), (3, .map (some b39)), (7, v2), (8, .int .i64 (rc.length : Int)), (9, .int .i64 ((i : Nat) : Int))] ⟨e0, e3, e7, e8, e9, trivial⟩ fun TA => ?_
  clear e0 e3 e7 e8 e9
  refine W.seq (W.region ?_)
  refine RW.v ?_
  refine RW.nil ?_
  refine W.rg [(0, .func (.yield b35) #[] #[]), (3, .map (some b39)), (7, v2), (8, .int .i64 (rc.length : Int)), (9, .int .i64 ((i : Nat) : Int)), (10, .bool (decide (((i : Nat) : Int) < (rc.length : Int))))] fun TA => ?_
  refine W.seq ?_
  refine W.cond rfl (fun hc40 => ?_) (fun hc40 => ?_)
  ·have hc40b := hc40
   have hc40 := of_decide_eq_true hc40
   have hil : i < rc.length := by omega
   refine W.skip ?_
   refine W.seq ?_
   refine W.block ?_
   refine W.seq (W.region ?_)
   refine RW.idxF (h2.le le0) (by kernel_rfl) (by kernel_rfl) rfl Tryd.underlying22 (by kernel_rfl) rfl rfl ⟨by omega, by omega⟩ (by kernel_rfl) ?_
   intro b41 q42 r43 hF44 hE45
   rw [strs_at (l := rc) (j := i) (i := ((i : Nat) : Int)) (by omega) (by omega)] at hE45
   refine RW.loads 1 (by kernel_rfl) (by kernel_rfl) rfl rfl (H.old _ _ hF44) hE45 rfl (by kernel_rfl) ?_
   refine RW.v ?_
   refine RW.nil ?_
   refine W.rg [(0, .func (.yield b35) #[] #[]), (3, .map (some b39)), (5, .string ⟨(rc.getD i []).toArray⟩), (7, v2), (8, .int .i64 (rc.length : Int)), (9, .int .i64 ((i : Nat) : Int))] fun TA => ?_
   refine W.seq ?_
   refine W.seq (W.region ?_)
   iterate 2 refine RW.v ?_
   refine RW.lkL H 1 (.bool (decide ((rc.getD i []) ∈ seen))) ?_ (hv := look_seen rfl rfl (by kernel_rfl))
   refine RW.v ?_
   refine RW.both _ _ rfl rfl rfl (fun hc46 => ?_) (fun hc46 => ?_)
   ·have hc46b := hc46
    have hc46 := of_decide_eq_true hc46
    have hskip : (rc.getD i []) ∈ seen ∨ validD (rc.getD i []) = false := .inl hc46
    iterate 3 refine RW.s ?_
    refine RW.v ?_
    refine RW.nil ?_
    refine W.c1 ?_
    refine W.exit _ ?_
    refine seqQ_exit ?_
    refine blkQ_here ?_
    refine W.region ?_
    refine RW.valE (v' := .int .i64 (((i : Nat) : Int) + 1)) (by kernel_rfl) (by kernel_rfl) rfl (congrArg (Value.int .i64) (wrap_in (by omega) (by omega))) (by kernel_rfl) ?_
    refine RW.v ?_
    refine RW.nil ?_
    exact ⟨rfl, mm - 1, by omega, i + 1, seen, acc2, u2, (by omega), (by omega), (by rw [hT, dist_skip hil hskip]), H, rfl, rfl, rfl, rfl, rfl⟩
   ·have hc46b := hc46
    have hc46 := of_decide_eq_false hc46
    have hnew := hc46
    refine RW.w ?_
    refine RW.cl (hw := by rfl) ?_
    refine ⟨_, _, (s_valid (hU.le (fun b y h => H.old _ _ (le0 b y h))) h16 (hrm _ (mem_of (by omega)))), ?_⟩
    refine RW.w ?_
    refine RW.v ?_
    refine RW.nil ?_
    refine W.rg [(0, .func (.yield b35) #[] #[]), (3, .map (some b39)), (5, .string ⟨(rc.getD i []).toArray⟩), (7, v2), (8, .int .i64 (rc.length : Int)), (9, .int .i64 ((i : Nat) : Int)), (20, .bool (!(validD (rc.getD i []))))] fun TA => ?_
    refine W.cond rfl (fun hc47 => ?_) (fun hc47 => ?_)
    ·have hc47b := hc47
     have hval : validD (rc.getD i []) = false := by simpa using hc47b
     have hskip : (rc.getD i []) ∈ seen ∨ validD (rc.getD i []) = false := .inr hval
     refine W.exit _ ?_
     refine seqQ_exit ?_
     refine blkQ_here ?_
     refine W.region ?_
     refine RW.valE (v' := .int .i64 (((i : Nat) : Int) + 1)) (by kernel_rfl) (by kernel_rfl) rfl (congrArg (Value.int .i64) (wrap_in (by omega) (by omega))) (by kernel_rfl) ?_
     refine RW.v ?_
     refine RW.nil ?_
     exact ⟨rfl, mm - 1, by omega, i + 1, seen, acc2, u2, (by omega), (by omega), (by rw [hT, dist_skip hil hskip]), H, rfl, rfl, rfl, rfl, rfl⟩
    ·have hc47b := hc47
     have hval : validD (rc.getD i []) = true := by simpa using hc47b
     refine W.skip ?_
     refine W.seq (W.region ?_)
     iterate 2 refine RW.v ?_
     refine RW.upL H 1 (seenE (seen ++ [(rc.getD i [])])) (seen.length + 1) ?_ (hv := upd_seen rfl rfl hnew)
     clear H; intro _ _ H; dsimp only [setL, delL] at H
     refine RW.nil ?_
     refine W.rg [(0, .func (.yield b35) #[] #[]), (3, .map (some b39)), (5, .string ⟨(rc.getD i []).toArray⟩), (7, v2), (8, .int .i64 (rc.length : Int)), (9, .int .i64 ((i : Nat) : Int))] fun TA => ?_
     refine W.seq (W.region ?_)
     iterate 2 refine RW.v ?_
     refine RW.yieldL H 2 rfl hl37 (by kernel_rfl) (by kernel_rfl) rfl rfl rfl rfl rfl (by kernel_rfl) ?_
     refine W.rg [(2, .pointer (some ⟨b26, 0, none⟩)), (3, .pointer (some ⟨b33, 0, none⟩)), (5, .func (.func 95) #[] #[.pointer (some ⟨b24, 0, none⟩)]), (6, .string ⟨(rc.getD i []).toArray⟩)] fun TA => ?_
     refine W.region ?_
     refine RW.v ?_
     refine RW.nil ?_
     refine ⟨rfl, _, _, _, 2, H, rfl, ?_⟩
     clear H; intro _ lq48 hq49 H
     dsimp only [setL, delL] at H
     refine W.rg [(2, .pointer (some ⟨b26, 0, none⟩)), (3, .pointer (some ⟨b33, 0, none⟩)), (4, .string ⟨(rc.getD i []).toArray⟩), (5, .func (.func 95) #[] #[.pointer (some ⟨b24, 0, none⟩)]), (6, .string ⟨(rc.getD i []).toArray⟩)] fun TA => ?_
     refine W.block ?_
     refine W.seq (W.region ?_)
     refine RW.ld H 8 1 ?_
     refine RW.v ?_
     replace H := H.front 12 rfl
     dsimp only [setL, delL] at H
     replace H := H.front 12 rfl
     dsimp only [setL, delL] at H
     refine RW.cl ?_
     refine ((cl_in1 (x := (rc.getD i [])) rfl (by omega) H).mono ?_)
     clear H
     rintro _ _ ⟨rfl, H⟩
     refine RW.v ?_
     refine RW.both _ _ rfl rfl rfl (fun hc50 => ?_) (fun hc50 => ?_)
     ·have hc50b := hc50
      have hc50 := of_decide_eq_true hc50
      refine RW.ldL H 6 1 (by rfl) (by kernel_rfl) rfl rfl rfl rfl rfl (by kernel_rfl) ?_
      refine RW.w ?_
      refine RW.yieldL H 7 rfl hl31 (by rfl) (by kernel_rfl) rfl rfl rfl rfl rfl (by kernel_rfl) ?_
      refine W.rg [(2, .pointer (some ⟨b27, 0, none⟩)), (6, .func (.func 94) #[] #[.pointer (some ⟨b25, 0, none⟩), .pointer (some ⟨b26, 0, none⟩)]), (7, .string ⟨(rc.getD i []).toArray⟩)] fun TA => ?_
      refine W.region ?_
      refine RW.v ?_
      refine RW.nil ?_
      refine ⟨rfl, _, _, _, 7, H, rfl, ?_⟩
      clear H; intro _ lq51 hq52 H
      dsimp only [setL, delL] at H
      refine W.rg [(2, .pointer (some ⟨b27, 0, none⟩)), (5, .string ⟨(rc.getD i []).toArray⟩), (6, .func (.func 94) #[] #[.pointer (some ⟨b25, 0, none⟩), .pointer (some ⟨b26, 0, none⟩)]), (7, .string ⟨(rc.getD i []).toArray⟩)] fun TA => ?_
      refine W.block ?_
      refine W.region ?_
      refine RW.ld H 9 1 ?_
      refine RW.v ?_
      refine RW.mkL H (x := .row ⟨[.string ⟨(rc.getD i []).toArray⟩], 9, false⟩) (fm := fun b => .slice (some ⟨b, 0, none⟩) 1 1) (by kernel_rfl) (by kernel_rfl) (by kernel_rfl) (by kernel_rfl) ?_
      clear H; intro _ b53 _ H
      refine RW.appL H 3 0 (n := 1) (e2 := 9) (by kernel_rfl) (by kernel_rfl) rfl rfl rfl rfl rfl rfl rfl rfl (by kernel_rfl) (by kernel_rfl) (by kernel_rfl) (by decide) (by decide) rfl rfl (by omega) (by kernel_rfl) ?_
      clear H; intro _ v54 _ H
      dsimp only [setL, delL] at H
      refine RW.stL H 9 (vs := [v54]) (cs' := [v54]) (by kernel_rfl) (by kernel_rfl) rfl rfl rfl (H.sl 2 rfl).one (gr_all (H.sl 2 rfl)) (by kernel_rfl) (Nat.le_of_ble_eq_true rfl) rfl (by kernel_rfl) ?_
      clear H; intro _ _ H; dsimp only [setL, delL] at H
      refine RW.nil ?_
      refine bQn ?_
      refine ⟨_, _, _, 7, true, .ready, none, H, rfl, rfl, ?_⟩
      clear H; intro _ lr55 _ hr56 H
      dsimp only [setL, delL] at H
      refine RW.w ?_
      refine RW.v ?_
      refine RW.nil ?_
      refine W.c0 ?_
      refine W.skip ?_
      refine bQn ?_
      refine ⟨_, _, _, 4, true, .ready, none, H, rfl, rfl, ?_⟩
      clear H; intro _ lr57 _ hr58 H
      dsimp only [setL, delL] at H
      refine RW.v ?_
      refine RW.nil ?_
      refine W.c0 ?_
      refine W.skip ?_
      refine bQn ?_
      refine W.region ?_
      refine RW.valE (v' := .int .i64 (((i : Nat) : Int) + 1)) (by kernel_rfl) (by kernel_rfl) rfl (congrArg (Value.int .i64) (wrap_in (by omega) (by omega))) (by kernel_rfl) ?_
      refine RW.v ?_
      refine RW.nil ?_
      rw [show lr57 = lp36 from hr58.trans hl37.symm] at H
      rw [show lr55 = lp30 from hr56.trans hl31.symm] at H
      replace H := H.front 1 rfl
      dsimp only [delL] at H
      replace H := H.front 1 rfl
      dsimp only [delL] at H
      replace H := H.front 12 rfl
      dsimp only [delL] at H
      replace H := H.front 12 rfl
      dsimp only [delL] at H
      replace H := H.front 12 rfl
      dsimp only [delL] at H
      replace H := H.front 12 rfl
      dsimp only [delL] at H
      replace H := H.front 12 rfl
      dsimp only [delL] at H
      replace H := H.front 12 rfl
      dsimp only [delL] at H
      replace H := H.front 12 rfl
      dsimp only [delL] at H
      replace H := H.front 12 rfl
      dsimp only [delL] at H
      replace H := H.front 12 rfl
      dsimp only [delL] at H
      replace H := H.front 12 rfl
      dsimp only [delL] at H
      replace H := H.front 12 rfl
      dsimp only [delL] at H
      rw [show seen.length + 1 = (seen ++ [(rc.getD i [])]).length by rw [List.length_append]; rfl] at H
      rw [acc_snoc (acc := acc2) (x := (rc.getD i []))] at H
      rw [show acc2.length + 1 = (acc2 ++ [(rc.getD i [])]).length by rw [List.length_append]; rfl] at H
      exact ⟨rfl, mm - 1, by omega, i + 1, (seen ++ [(rc.getD i [])]), (acc2 ++ [(rc.getD i [])]), v54, (by omega), (by rw [List.length_append, List.length_singleton]; omega), (by rw [hT, dist_take hil hnew hval, List.filter_cons_of_pos (p := (fun x => decide (x ∈ acc1))) hc50b, List.append_assoc]; rfl), H, rfl, rfl, rfl, rfl, rfl⟩
     ·have hc50b := hc50
      have hc50 := of_decide_eq_false hc50
      iterate 4 refine RW.s ?_
      refine RW.v ?_
      refine RW.nil ?_
      refine W.c0 ?_
      refine W.skip ?_
      refine bQn ?_
      refine ⟨_, _, _, 4, true, .ready, none, H, rfl, rfl, ?_⟩
      clear H; intro _ lr59 _ hr60 H
      dsimp only [setL, delL] at H
      refine RW.v ?_
      refine RW.nil ?_
      refine W.c0 ?_
      refine W.skip ?_
      refine bQn ?_
      refine W.region ?_
      refine RW.valE (v' := .int .i64 (((i : Nat) : Int) + 1)) (by kernel_rfl) (by kernel_rfl) rfl (congrArg (Value.int .i64) (wrap_in (by omega) (by omega))) (by kernel_rfl) ?_
      refine RW.v ?_
      refine RW.nil ?_
      rw [show lr59 = lp36 from hr60.trans hl37.symm] at H
      replace H := H.front 1 rfl
      dsimp only [delL] at H
      replace H := H.front 1 rfl
      dsimp only [delL] at H
      replace H := H.front 12 rfl
      dsimp only [delL] at H
      replace H := H.front 12 rfl
      dsimp only [delL] at H
      replace H := H.front 12 rfl
      dsimp only [delL] at H
      replace H := H.front 12 rfl
      dsimp only [delL] at H
      replace H := H.front 12 rfl
      dsimp only [delL] at H
      replace H := H.front 12 rfl
      dsimp only [delL] at H
      replace H := H.front 12 rfl
      dsimp only [delL] at H
      replace H := H.front 12 rfl
      dsimp only [delL] at H
      replace H := H.front 12 rfl
      dsimp only [delL] at H
      replace H := H.front 12 rfl
      dsimp only [delL] at H
      replace H := H.front 12 rfl
      dsimp only [delL] at H
      rw [show seen.length + 1 = (seen ++ [(rc.getD i [])]).length by rw [List.length_append]; rfl] at H
      exact ⟨rfl, mm - 1, by omega, i + 1, (seen ++ [(rc.getD i [])]), acc2, u2, (by omega), (by omega), (by rw [hT, dist_take hil hnew hval, List.filter_cons_of_neg (p := (fun x => decide (x ∈ acc1))) (by rw [hc50b]; exact Bool.false_ne_true)]), H, rfl, rfl, rfl, rfl, rfl⟩
  ·have hc40b := hc40
   have hc40 := of_decide_eq_false hc40
   refine W.exit _ ?_
   refine seqQ_exit ?_
   refine rndQ_exit ?_
   have hR2 : T2 = acc2 := by rw [hT, List.drop_eq_nil_of_le (by omega)]; exact List.append_nil _
   have hL2 : acc2.length ≤ rc.length := by omega
   refine blkQ_here ?_
   refine endG (by rfl) (by exact rfl) ?_
   refine ⟨_, _, _, 2, _, _, _, _, H, rfl, hl37, rfl, rfl, ?_⟩
   clear H; intro _ H
   dsimp only [setL, delL] at H
   refine bQn ?_
   refine endMark H 2 rfl fun _ H => ?_
   dsimp only [setL, delL] at H
   refine endGD0 (by rfl) (by exact rfl) ?_
   refine ⟨_, _, _, 3, _, _, _, _, H, rfl, hl31, rfl, rfl, ?_⟩
   clear H; intro _ H
   dsimp only [setL, delL] at H
   refine bQn ?_
   refine W.seq (W.region ?_)
   refine RW.ld H 4 1 ?_
   refine RW.v ?_
   refine RW.nil ?_
   replace H := (((H.del 4).del 2).del 1)
   dsimp only [setL, delL] at H
   refine W.ret ?_
   refine endMark H 1 rfl fun _ H => ?_
   dsimp only [setL, delL] at H
   refine endGD0 (by rfl) (by exact resL_tmp rfl) ?_
   refine RW.v ?_
   refine RW.nil ?_
   refine W.ret ?_
   refine endG (by rfl) (by exact resL_tmp rfl) ?_
   rw [← rowS_map acc2] at H
   refine RW.mk H (.row ⟨[.slice none 0 0], 22, false⟩) ?_
   clear H; intro _ b61 _ H
   refine RW.stL H 0 (vs := [u2]) (cs' := [u2]) (by kernel_rfl) (by kernel_rfl) rfl rfl rfl (H.sl 1 rfl).one (gr_all (H.sl 1 rfl)) (by kernel_rfl) (Nat.le_of_ble_eq_true rfl) rfl (by kernel_rfl) ?_
   clear H; intro _ _ H; dsimp only [setL, delL] at H
   refine RW.nil ?_
   replace H := (((H.del 4).del 3).del 2)
   dsimp only [setL, delL] at H
   refine W.rg [(5, .pointer (some ⟨b23, 0, none⟩)), (6, .pointer (some ⟨b61, 0, none⟩))] fun TA => ?_
   refine W.seq (W.region ?_)
   refine RW.ld H 2 1 ?_
   refine RW.val (v := .func (.func 77) #[] #[.pointer (some ⟨b61, 0, none⟩)]) (by kernel_rfl) (by kernel_rfl) (by kernel_rfl) (by kernel_rfl) ?_
   replace H := H.front 1 rfl
   dsimp only [setL, delL] at H
   replace H := H.front 1 rfl
   dsimp only [setL, delL] at H
   replace H := H.front 3 rfl
   dsimp only [setL, delL] at H
   refine RW.cl ?_
   refine ((delS_wc rfl (by omega) rfl (by omega) H).mono ?_)
   clear H
   rintro dv _ ⟨n1, hn1, H⟩
   obtain ⟨O, hO⟩ : ∃ O, O = acc1.filter (fun y => !decide (y ∈ acc2)) := ⟨_, rfl⟩
   rw [← hO] at H hn1
   have hOl : O.length ≤ acc1.length := by rw [hO]; exact List.length_filter_le ..
   have hOs : ∀ x ∈ O, x.length ≤ 1000000 := fun x hx => by rw [hO] at hx; have h1 := (List.mem_filter.1 hx).1; rw [← hR1, hTd1] at h1; exact hsm x (distM_mem.1 h1).1
   refine RW.v ?_
   refine RW.nil ?_
   replace H := (H.del 3)
   dsimp only [setL, delL] at H
   refine W.rg [(6, .pointer (some ⟨b61, 0, none⟩)), (7, dv)] fun TA => ?_
   refine W.seq (W.region ?_)
   refine RW.v ?_
   refine RW.cl ?_
   refine ((sortS_wc ⟨hn1.symm, hOs⟩ (by omega) H).mono ?_)
   clear H
   rintro _ _ H
   obtain ⟨S, hS⟩ : ∃ S, S = sortL ltS O := ⟨_, rfl⟩
   rw [← hS, rowS_map S] at H
   have hSl : S.length = n1 := by rw [hS, hn1]; exact (sortL_stab O).len
   refine RW.nil ?_
   refine W.rg [(6, .pointer (some ⟨b61, 0, none⟩)), (7, dv)] fun TA => ?_
   refine W.seq (W.region ?_)
   refine RW.ld H 1 1 ?_
   refine RW.v ?_
   obtain ⟨F, le, hdv, H⟩ := H.freezeSl 0 rfl
   dsimp only [setL, delL] at H
   replace le0 := fun b y h => le b y (le0 b y h)
   refine RW.appF H 1 (e2 := 9) hdv (by kernel_rfl) (by kernel_rfl) rfl rfl rfl rfl rfl rfl rfl (by kernel_rfl) (by kernel_rfl) (by kernel_rfl) (by decide) (strs_ones _) (by omega) (by kernel_rfl) ?_
   clear H; intro _ v62 _ H
   dsimp only [setL, delL] at H
   refine RW.v ?_
   refine RW.nil ?_
   replace H := (H.del 0)
   dsimp only [setL, delL] at H
   refine W.ret ?_
   refine endG (by rfl) (by exact resL_tmp rfl) ?_
   have ea : sortC l rc = acc2 ++ S := by unfold sortC; rw [← hTd1, hR1, ← hTd2, hR2, ← hO, ← hS]
   obtain ⟨F', le, hv, H⟩ := H.freezeSl 0 rfl
   dsimp only [setL, delL] at H
   rw [ea, List.length_append, List.map_append, hSl, ← rowS_map acc2]
   exact ⟨F', fun b y h => le b y (le0 b y h), hv, H⟩
end
end Go.Proofs.YtjcmdifpkafdkaaDoor
