/-
 Candidates that begin with an input; its completion. Conditions: the tables of unicode/utf8 lie.
-/
import Derived.Test.YtjcmdifpkafdkaaDoorC2
namespace Go.Proofs.YtjcmdifpkafdkaaDoor
open Go.Lib
set_option maxRecDepth 100000
open Go.RowKit
theorem GRow.one {G : Nat} {σ : Mem} {e : TypeId} {s n : Nat} {v : Value} {xs : List Value} (g : GRow G σ e s v n xs) : v.cells.toList = [v] := by cases g <;> rfl
theorem acc_snoc {acc : List (List UInt8)} {x : List UInt8} : acc.map strV ++ [.string ⟨x.toArray⟩] = (acc ++ [x]).map strV := by rw [List.map_append]; rfl
theorem dist_skip {l seen : List (List UInt8)} {i : Nat} (h : i < l.length) (k : l.getD i [] ∈ seen ∨ validD (l.getD i []) = false) : distG seen (l.drop i) = distG seen (l.drop (i + 1)) := by
 rw [dropD (d := []) h]
 exact if_pos k
theorem dist_take {l seen : List (List UInt8)} {i : Nat} (h : i < l.length) (k : l.getD i [] ∉ seen) (hv : validD (l.getD i []) = true) : distG seen (l.drop i) = l.getD i [] :: distG (seen ++ [l.getD i []]) (l.drop (i + 1)) := by
 rw [dropD (d := []) h]
 exact if_neg (fun h => h.elim k fun h => by rw [hv] at h; cases h)
theorem distG_len : ∀ (l seen : List (List UInt8)), (distG seen l).length ≤ l.length
 | [], _ => Nat.le_refl _
 | s :: l, seen => by
  unfold distG
  split
  ·exact Nat.le_succ_of_le (distG_len l seen)
  ·exact Nat.succ_le_succ (distG_len l _)
section
variable {G : Nat} {A : Abs} {σ : Mem} {F : Nat → Option Blk2} {L : List Ent} {fold : Bool} {l : List (List UInt8)} {s : List UInt8} {v1 : Value}
set_option maxHeartbeats 16000000 in
theorem All_wc (hU : U8F F) (h16 : 16 ≤ G) (h1 : SlF F 1 v1 l.length (l.map strV)) (hl : l.length ≤ 1000000) (hsm : ∀ s ∈ l, s.length ≤ 1000000) (hs : s.length ≤ 1000000) (H : Lies G A F σ L) : WC G Tryd.prog 24 #[v1, .string ⟨s.toArray⟩, .bool fold] σ fun v σ' => ∃ F', Le F F' ∧ SlF F' 1 v (allC fold l s).length ((allC fold l s).map strV) ∧ Lies G A F' σ' L := by
 cases fold with
 | true =>
  obtain ⟨F0, hF⟩ : ∃ F0, F0 = F := ⟨_, rfl⟩
  have le0 : Le F0 F := fun b y h => hF ▸ h
  rw [← hF] at h1 hU ⊢
  refine WC.enter (fn := Tryd.f24) Tryd.func24 rfl ?_
  refine W.rg [(0, v1), (1, .string ⟨s.toArray⟩), (2, .bool true)] fun TA => ?_
  refine W.seq (W.region ?_)
  refine RW.v ?_
  refine RW.nil ?_
  refine W.rg [(0, v1), (1, .string ⟨s.toArray⟩), (2, .bool true)] fun TA => ?_
  refine W.seq ?_
  refine W.seq (W.region ?_)
  refine RW.v ?_
  refine RW.cl ?_
  refine ⟨_, _, (s_valid (hU.le (fun b y h => H.old _ _ (le0 b y h))) h16 hs), ?_⟩
  refine RW.v ?_
  refine RW.nil ?_
  refine W.rg [(0, v1), (1, .string ⟨s.toArray⟩), (2, .bool true), (11, .bool (!(validD s)))] fun TA => ?_
  refine W.cond rfl (fun hc1 => ?_) (fun hc1 => ?_)
  ·have hc1b := hc1
   have hvs : validD s = false := by simpa using hc1b
   refine W.seq (W.region ?_)
   refine RW.v ?_
   refine RW.nil ?_
   refine W.ret ?_
   refine seqQ_ret ?_
   refine endG (by rfl) (by exact resL_tmp rfl) ?_
   have ea : allC true l s = [] := by unfold allC; rw [if_neg (by rw [hvs]; exact Bool.false_ne_true)]
   rw [ea]
   exact ⟨F, le0, .nil _ rfl, H⟩
  ·have hc1b := hc1
   have hvs : validD s = true := by simpa using hc1b
   refine W.skip ?_
   refine W.seq (W.region ?_)
   refine RW.v ?_
   refine RW.cl ?_
   refine ((by_wc (fold := true) H).mono ?_)
   clear H
   rintro _ _ ⟨rfl, H⟩
   refine RW.v ?_
   refine RW.convR H hs (by kernel_rfl) (by kernel_rfl) rfl rfl rfl rfl rfl (by kernel_rfl) ?_
   clear H; intro _ cv2 H
   obtain ⟨F, le, hk3, H⟩ := H.freezeK 0 rfl
   dsimp only [setL, delL] at H
   replace le0 := fun b y h => le b y (le0 b y h)
   refine RW.mk H (.row ⟨[.nilFunc], 47, false⟩) ?_
   clear H; intro _ b4 _ H
   refine RW.mk H (.row ⟨[.slice none 0 0], 50, false⟩) ?_
   clear H; intro _ b5 _ H
   refine RW.st H 1 [.func (.func 84) #[] #[]] [.func (.func 84) #[] #[]] ?_
   clear H; intro _ _ H; dsimp only [setL, delL] at H
   refine RW.stL H 0 (vs := [cv2]) (cs' := [cv2]) (by kernel_rfl) (by kernel_rfl) rfl rfl rfl (slf_one hk3.slf) (slf_all hk3.slf) (by kernel_rfl) (Nat.le_of_ble_eq_true rfl) rfl (by kernel_rfl) ?_
   clear H; intro _ _ H; dsimp only [setL, delL] at H
   refine RW.nil ?_
   refine W.rg [(0, v1), (7, .pointer (some ⟨b4, 0, none⟩)), (8, .pointer (some ⟨b5, 0, none⟩))] fun TA => ?_
   refine W.seq (W.region ?_)
   refine RW.v ?_
   refine RW.cl ?_
   refine WC.enter (fn := Tryd.f58) Tryd.func58 rfl ?_
   refine W.rg [(0, v1)] fun TA => ?_
   refine W.seq (W.region ?_)
   refine RW.mk H (.row ⟨(v1).cells.toList, 22, false⟩) ?_
   clear H; intro _ b6 _ H
   rw [(slf_one (h1.le le0))] at H
   refine RW.v ?_
   refine RW.nil ?_
   refine W.rg [(1, .pointer (some ⟨b6, 0, none⟩))] fun TA => ?_
   refine W.seq (W.region ?_)
   refine RW.val (v := .func (.func 95) #[] #[.pointer (some ⟨b6, 0, none⟩)]) (by kernel_rfl) (by kernel_rfl) (by kernel_rfl) (by kernel_rfl) ?_
   refine RW.v ?_
   refine RW.nil ?_
   refine W.ret ?_
   refine endG (by rfl) (by exact resL_tmp rfl) ?_
   refine RW.val (v := .func (.func 62) #[] #[.pointer (some ⟨b4, 0, none⟩), .pointer (some ⟨b5, 0, none⟩)]) (by kernel_rfl) (by kernel_rfl) (by kernel_rfl) (by kernel_rfl) ?_
   obtain ⟨F, le, hb7, H⟩ := H.freeze 2 rfl
   dsimp only [setL, delL] at H
   replace le0 := fun b y h => le b y (le0 b y h)
   replace hk3 := hk3.le le
   obtain ⟨F, le, hb8, H⟩ := H.freeze 1 rfl
   dsimp only [setL, delL] at H
   replace le0 := fun b y h => le b y (le0 b y h)
   replace hk3 := hk3.le le
   replace hb7 := le _ _ hb7
   obtain ⟨T, hTd⟩ : ∃ T, T = allC true l s := ⟨_, rfl⟩
   have hT0 : T = [] ++ (distG [] (l.drop 0)).filter (fun c => begC true (runes c) (runes s)) := by rw [hTd]; unfold allC; rw [if_pos hvs]; rfl
   refine RW.cl ?_
   refine WC.enter (fn := Tryd.f57) Tryd.func57 rfl ?_
   refine W.rg [(0, .func (.func 95) #[] #[.pointer (some ⟨b6, 0, none⟩)]), (1, .func (.func 62) #[] #[.pointer (some ⟨b4, 0, none⟩), .pointer (some ⟨b5, 0, none⟩)])] fun TA => ?_
   refine W.seq (W.region ?_)
   refine RW.mk H (.row ⟨[.func (.func 95) #[] #[pt b6]], 71, false⟩) ?_
   clear H; intro _ b7 _ H
   refine RW.mk H (.row ⟨[.func (.func 62) #[] #[pt b4, pt b5]], 41, false⟩) ?_
   clear H; intro _ b8 _ H
   refine RW.v ?_
   refine RW.nil ?_
   refine W.rg [(2, .pointer (some ⟨b7, 0, none⟩)), (3, .pointer (some ⟨b8, 0, none⟩))] fun TA => ?_
   refine W.seq (W.region ?_)
   refine RW.val (v := .func (.func 94) #[] #[.pointer (some ⟨b7, 0, none⟩), .pointer (some ⟨b8, 0, none⟩)]) (by kernel_rfl) (by kernel_rfl) (by kernel_rfl) (by kernel_rfl) ?_
   refine RW.v ?_
   refine RW.nil ?_
   refine W.ret ?_
   refine endG (by rfl) (by exact resL_tmp rfl) ?_
   refine RW.cl ?_
   refine WC.enter (fn := Tryd.f56) Tryd.func56 rfl ?_
   refine W.rg [(0, .func (.func 94) #[] #[.pointer (some ⟨b7, 0, none⟩), .pointer (some ⟨b8, 0, none⟩)])] fun TA => ?_
   refine W.seq (W.region ?_)
   refine RW.v ?_
   refine RW.nil ?_
   refine W.rg [(0, .func (.func 94) #[] #[.pointer (some ⟨b7, 0, none⟩), .pointer (some ⟨b8, 0, none⟩)])] fun TA => ?_
   refine W.seq (W.region ?_)
   refine RW.v ?_
   refine RW.cl ?_
   refine WC.enterD (fn := Tryd.f93) Tryd.func93 rfl ?_
   refine W.rg [(0, .slice none 0 0), (1, .func (.func 94) #[] #[.pointer (some ⟨b7, 0, none⟩), .pointer (some ⟨b8, 0, none⟩)])] fun TA => ?_
   refine W.seq (W.region ?_)
   refine RW.mk H (.row ⟨[.slice none 0 0], 22, false⟩) ?_
   clear H; intro _ b9 _ H
   refine RW.v ?_
   refine RW.nil ?_
   refine W.rg [(1, .func (.func 94) #[] #[.pointer (some ⟨b7, 0, none⟩), .pointer (some ⟨b8, 0, none⟩)]), (2, .pointer (some ⟨b9, 0, none⟩))] fun TA => ?_
   refine W.seq ?_
   refine W.seq (W.region ?_)
   refine RW.v ?_
   refine RW.nil ?_
   refine W.rg [(2, .pointer (some ⟨b9, 0, none⟩)), (6, .func (.func 94) #[] #[.pointer (some ⟨b7, 0, none⟩), .pointer (some ⟨b8, 0, none⟩)])] fun TA => ?_
   refine W.block ?_
   refine W.rst [(2, .pointer (some ⟨b9, 0, none⟩)), (6, .func (.func 94) #[] #[.pointer (some ⟨b7, 0, none⟩), .pointer (some ⟨b8, 0, none⟩)])] ⟨rfl, rfl, trivial⟩ fun TL14 => ?_
   refine W.rangeL H rfl (fun _ h => nomatch h) (fun _ h => nomatch h) (by kernel_rfl) fun _ d10 b11 lp12 hl13 H => ?_
   refine WC.enterD (fn := Tryd.f94) Tryd.func94 rfl ?_
   refine W.rg [(0, .func (.yield b11) #[] #[]), (1, .pointer (some ⟨b7, 0, none⟩)), (2, .pointer (some ⟨b8, 0, none⟩))] fun TA => ?_
   refine W.seq (W.region ?_)
   refine RW.mk H (.row ⟨[.func (.yield b11) #[] #[]], 41, false⟩) ?_
   clear H; intro _ b15 _ H
   refine RW.nil ?_
   refine W.rg [(1, .pointer (some ⟨b7, 0, none⟩)), (2, .pointer (some ⟨b8, 0, none⟩)), (3, .pointer (some ⟨b15, 0, none⟩))] fun TA => ?_
   refine W.seq (W.region ?_)
   refine RW.ld H 5 1 ?_
   refine RW.nil ?_
   refine W.rg [(2, .pointer (some ⟨b8, 0, none⟩)), (3, .pointer (some ⟨b15, 0, none⟩)), (5, .func (.func 95) #[] #[.pointer (some ⟨b6, 0, none⟩)])] fun TA => ?_
   refine W.block ?_
   refine W.rst [(2, .pointer (some ⟨b8, 0, none⟩)), (3, .pointer (some ⟨b15, 0, none⟩)), (5, .func (.func 95) #[] #[.pointer (some ⟨b6, 0, none⟩)])] ⟨rfl, rfl, rfl, trivial⟩ fun TL20 => ?_
   refine W.rangeL H rfl (fun _ h => nomatch h) (fun _ h => nomatch h) (by kernel_rfl) fun _ d16 b17 lp18 hl19 H => ?_
   refine WC.enter (fn := Tryd.f95) Tryd.func95 rfl ?_
   refine W.rg [(0, .func (.yield b17) #[] #[]), (1, .pointer (some ⟨b6, 0, none⟩))] fun TA => ?_
   refine W.seq (W.region ?_)
   refine RW.mkM H ?_
   clear H; intro _ b21 _ H
   refine RW.v ?_
   refine RW.nil ?_
   refine W.rg [(0, .func (.yield b17) #[] #[]), (1, .pointer (some ⟨b6, 0, none⟩)), (3, .map (some b21))] fun TA => ?_
   refine W.seq (W.region ?_)
   refine RW.ld H 9 1 ?_
   refine RW.len (by kernel_rfl) (by kernel_rfl) rfl rfl rfl rfl ((h1.le le0).len (e := 9) (by kernel_rfl)) (by kernel_rfl) ?_
   refine RW.v ?_
   refine RW.nil ?_
   refine W.rg [(0, .func (.yield b17) #[] #[]), (3, .map (some b21)), (7, v1), (8, .int .i64 (l.length : Int)), (9, .int .i64 0)] fun TA => ?_
   refine W.block ?_
   replace H := H.nilSl 9 1
   refine W.loop (fun mm ta σ => ∃ (i : Nat) (seen : List (List UInt8)) (acc : List (List UInt8)) (u : Value), (mm + i = l.length) ∧ (acc.length ≤ i) ∧ (T = acc ++ (distG seen (l.drop i)).filter (fun c => begC true (runes c) (runes s))) ∧ Lies G A F σ (.sl 9 1 u acc.length (acc.map strV) :: .at_ b21 (.ents (seenE seen) seen.length) :: .at_ b17 lp18 :: .at_ d16 (.defs true) :: .at_ b15 (.row ⟨[.func (.yield b11) #[] #[]], 41, false⟩) :: .at_ b11 lp12 :: .at_ d10 (.defs true) :: .at_ b9 (.row ⟨[u], 22, false⟩) :: .at_ b8 (.row ⟨[.func (.func 62) #[] #[.pointer (some ⟨b4, 0, none⟩), .pointer (some ⟨b5, 0, none⟩)]], 41, false⟩) :: .at_ b7 (.row ⟨[.func (.func 95) #[] #[.pointer (some ⟨b6, 0, none⟩)]], 71, false⟩) :: .at_ b6 (.row ⟨[v1], 22, false⟩) :: (L)) ∧ ta 0 = .func (.yield b17) #[] #[] ∧ ta 3 = .map (some b21) ∧ ta 7 = v1 ∧ ta 8 = .int .i64 (l.length : Int) ∧ ta 9 = .int .i64 ((i : Nat) : Int)) l.length ?_ ?_
   ·exact ⟨0, [], [], .slice none 0 0, (by omega), (Nat.zero_le _), hT0, H, rfl, rfl, rfl, rfl, rfl⟩
   clear H
   rintro mm ta _ ⟨i, seen, acc, u, hm, hac, hT, H, e0, e3, e7, e8, e9⟩
   refine W.rst [(0, .func (.yield b17) #[] #[]), (3, .map (some b21)), (7, v1), (8, .int .i64 (l.length : Int)), (9, .int .i64 ((i : Nat) : Int))] ⟨e0, e3, e7, e8, e9, trivial⟩ fun TA => ?_
   clear e0 e3 e7 e8 e9
   refine W.seq (W.region ?_)
   refine RW.v ?_
   refine RW.nil ?_
   refine W.rg [(0, .func (.yield b17) #[] #[]), (3, .map (some b21)), (7, v1), (8, .int .i64 (l.length : Int)), (9, .int .i64 ((i : Nat) : Int)), (10, .bool (decide (((i : Nat) : Int) < (l.length : Int))))] fun TA => ?_
   refine W.seq ?_
   refine W.cond rfl (fun hc22 => ?_) (fun hc22 => ?_)
   ·have hc22b := hc22
    have hc22 := of_decide_eq_true hc22
    have hil : i < l.length := by omega
    refine W.skip ?_
    refine W.seq ?_
    refine W.block ?_
    refine W.seq (W.region ?_)
    refine RW.idxF (h1.le le0) (by kernel_rfl) (by kernel_rfl) rfl Tryd.underlying22 (by kernel_rfl) rfl rfl ⟨by omega, by omega⟩ (by kernel_rfl) ?_
    intro b23 q24 r25 hF26 hE27
    rw [strs_at (l := l) (j := i) (i := ((i : Nat) : Int)) (by omega) (by omega)] at hE27
    refine RW.loads 1 (by kernel_rfl) (by kernel_rfl) rfl rfl (H.old _ _ hF26) hE27 rfl (by kernel_rfl) ?_
    refine RW.v ?_
    refine RW.nil ?_
    refine W.rg [(0, .func (.yield b17) #[] #[]), (3, .map (some b21)), (5, .string ⟨(l.getD i []).toArray⟩), (7, v1), (8, .int .i64 (l.length : Int)), (9, .int .i64 ((i : Nat) : Int))] fun TA => ?_
    refine W.seq ?_
    refine W.seq (W.region ?_)
    iterate 2 refine RW.v ?_
    refine RW.lkL H 1 (.bool (decide ((l.getD i []) ∈ seen))) ?_ (hv := look_seen rfl rfl (by kernel_rfl))
    refine RW.v ?_
    refine RW.both _ _ rfl rfl rfl (fun hc28 => ?_) (fun hc28 => ?_)
    ·have hc28b := hc28
     have hc28 := of_decide_eq_true hc28
     have hskip : (l.getD i []) ∈ seen ∨ validD (l.getD i []) = false := .inl hc28
     iterate 3 refine RW.s ?_
     refine RW.v ?_
     refine RW.nil ?_
     refine W.c1 ?_
     refine W.exit _ ?_
     refine seqQ_exit ?_
     refine blkQ_here ?_
     refine W.region ?_
     refine RW.valE (v' := .int .i64 (((i : Nat) : Int) + 1)) (by kernel_rfl) (by kernel_rfl) rfl (congrArg (Value.int .i64) (wrap_in (by omega) (by omega))) (by kernel_rfl) ?_
     refine RW.v ?_
     refine RW.nil ?_
     exact ⟨rfl, mm - 1, by omega, i + 1, seen, acc, u, (by omega), (by omega), (by rw [hT, dist_skip hil hskip]), H, rfl, rfl, rfl, rfl, rfl⟩
    ·have hc28b := hc28
     have hc28 := of_decide_eq_false hc28
     have hnew := hc28
     refine RW.w ?_
     refine RW.cl (hw := by rfl) ?_
     refine ⟨_, _, (s_valid (hU.le (fun b y h => H.old _ _ (le0 b y h))) h16 (hsm _ (mem_of (by omega)))), ?_⟩
     refine RW.w ?_
     refine RW.v ?_
     refine RW.nil ?_
     refine W.rg [(0, .func (.yield b17) #[] #[]), (3, .map (some b21)), (5, .string ⟨(l.getD i []).toArray⟩), (7, v1), (8, .int .i64 (l.length : Int)), (9, .int .i64 ((i : Nat) : Int)), (20, .bool (!(validD (l.getD i []))))] fun TA => ?_
     refine W.cond rfl (fun hc29 => ?_) (fun hc29 => ?_)
     ·have hc29b := hc29
      have hval : validD (l.getD i []) = false := by simpa using hc29b
      have hskip : (l.getD i []) ∈ seen ∨ validD (l.getD i []) = false := .inr hval
      refine W.exit _ ?_
      refine seqQ_exit ?_
      refine blkQ_here ?_
      refine W.region ?_
      refine RW.valE (v' := .int .i64 (((i : Nat) : Int) + 1)) (by kernel_rfl) (by kernel_rfl) rfl (congrArg (Value.int .i64) (wrap_in (by omega) (by omega))) (by kernel_rfl) ?_
      refine RW.v ?_
      refine RW.nil ?_
      exact ⟨rfl, mm - 1, by omega, i + 1, seen, acc, u, (by omega), (by omega), (by rw [hT, dist_skip hil hskip]), H, rfl, rfl, rfl, rfl, rfl⟩
     ·have hc29b := hc29
      have hval : validD (l.getD i []) = true := by simpa using hc29b
      refine W.skip ?_
      refine W.seq (W.region ?_)
      iterate 2 refine RW.v ?_
      refine RW.upL H 1 (seenE (seen ++ [(l.getD i [])])) (seen.length + 1) ?_ (hv := upd_seen rfl rfl hnew)
      clear H; intro _ _ H; dsimp only [setL, delL] at H
      refine RW.nil ?_
      refine W.rg [(0, .func (.yield b17) #[] #[]), (3, .map (some b21)), (5, .string ⟨(l.getD i []).toArray⟩), (7, v1), (8, .int .i64 (l.length : Int)), (9, .int .i64 ((i : Nat) : Int))] fun TA => ?_
      refine W.seq (W.region ?_)
      iterate 2 refine RW.v ?_
      refine RW.yieldL H 2 rfl hl19 (by kernel_rfl) (by kernel_rfl) rfl rfl rfl rfl rfl (by kernel_rfl) ?_
      refine W.rg [(2, .pointer (some ⟨b8, 0, none⟩)), (3, .pointer (some ⟨b15, 0, none⟩)), (5, .func (.func 95) #[] #[.pointer (some ⟨b6, 0, none⟩)]), (6, .string ⟨(l.getD i []).toArray⟩)] fun TA => ?_
      refine W.region ?_
      refine RW.v ?_
      refine RW.nil ?_
      refine ⟨rfl, _, _, _, 2, H, rfl, ?_⟩
      clear H; intro _ lq30 hq31 H
      dsimp only [setL, delL] at H
      refine W.rg [(2, .pointer (some ⟨b8, 0, none⟩)), (3, .pointer (some ⟨b15, 0, none⟩)), (4, .string ⟨(l.getD i []).toArray⟩), (5, .func (.func 95) #[] #[.pointer (some ⟨b6, 0, none⟩)]), (6, .string ⟨(l.getD i []).toArray⟩)] fun TA => ?_
      refine W.block ?_
      refine W.seq (W.region ?_)
      refine RW.ld H 8 1 ?_
      refine RW.v ?_
      refine RW.cl ?_
      refine ((cl_all (fold := true) (s := (l.getD i [])) hb7 hb8 hk3.slf (runes_in s) (hsm _ (mem_of (by omega))) H).mono ?_)
      clear H
      rintro _ _ ⟨rfl, H⟩
      refine RW.v ?_
      refine RW.both _ _ rfl rfl rfl (fun hc32 => ?_) (fun hc32 => ?_)
      ·have hc32b := hc32
       refine RW.ldL H 4 1 (by rfl) (by kernel_rfl) rfl rfl rfl rfl rfl (by kernel_rfl) ?_
       refine RW.w ?_
       refine RW.yieldL H 5 rfl hl13 (by rfl) (by kernel_rfl) rfl rfl rfl rfl rfl (by kernel_rfl) ?_
       refine W.rg [(2, .pointer (some ⟨b9, 0, none⟩)), (6, .func (.func 94) #[] #[.pointer (some ⟨b7, 0, none⟩), .pointer (some ⟨b8, 0, none⟩)]), (7, .string ⟨(l.getD i []).toArray⟩)] fun TA => ?_
       refine W.region ?_
       refine RW.v ?_
       refine RW.nil ?_
       refine ⟨rfl, _, _, _, 5, H, rfl, ?_⟩
       clear H; intro _ lq33 hq34 H
       dsimp only [setL, delL] at H
       refine W.rg [(2, .pointer (some ⟨b9, 0, none⟩)), (5, .string ⟨(l.getD i []).toArray⟩), (6, .func (.func 94) #[] #[.pointer (some ⟨b7, 0, none⟩), .pointer (some ⟨b8, 0, none⟩)]), (7, .string ⟨(l.getD i []).toArray⟩)] fun TA => ?_
       refine W.block ?_
       refine W.region ?_
       refine RW.ld H 7 1 ?_
       refine RW.v ?_
       refine RW.mkL H (x := .row ⟨[.string ⟨(l.getD i []).toArray⟩], 9, false⟩) (fm := fun b => .slice (some ⟨b, 0, none⟩) 1 1) (by kernel_rfl) (by kernel_rfl) (by kernel_rfl) (by kernel_rfl) ?_
       clear H; intro _ b35 _ H
       refine RW.appL H 1 0 (n := 1) (e2 := 9) (by kernel_rfl) (by kernel_rfl) rfl rfl rfl rfl rfl rfl rfl rfl (by kernel_rfl) (by kernel_rfl) (by kernel_rfl) (by decide) (by decide) rfl rfl (by omega) (by kernel_rfl) ?_
       clear H; intro _ v36 _ H
       dsimp only [setL, delL] at H
       refine RW.stL H 7 (vs := [v36]) (cs' := [v36]) (by kernel_rfl) (by kernel_rfl) rfl rfl rfl (H.sl 0 rfl).one (gr_all (H.sl 0 rfl)) (by kernel_rfl) (Nat.le_of_ble_eq_true rfl) rfl (by kernel_rfl) ?_
       clear H; intro _ _ H; dsimp only [setL, delL] at H
       refine RW.nil ?_
       refine bQn ?_
       refine ⟨_, _, _, 5, true, .ready, none, H, rfl, rfl, ?_⟩
       clear H; intro _ lr37 _ hr38 H
       dsimp only [setL, delL] at H
       refine RW.w ?_
       refine RW.v ?_
       refine RW.nil ?_
       refine W.c0 ?_
       refine W.skip ?_
       refine bQn ?_
       refine ⟨_, _, _, 2, true, .ready, none, H, rfl, rfl, ?_⟩
       clear H; intro _ lr39 _ hr40 H
       dsimp only [setL, delL] at H
       refine RW.v ?_
       refine RW.nil ?_
       refine W.c0 ?_
       refine W.skip ?_
       refine bQn ?_
       refine W.region ?_
       refine RW.valE (v' := .int .i64 (((i : Nat) : Int) + 1)) (by kernel_rfl) (by kernel_rfl) rfl (congrArg (Value.int .i64) (wrap_in (by omega) (by omega))) (by kernel_rfl) ?_
       refine RW.v ?_
       refine RW.nil ?_
       rw [show lr39 = lp18 from hr40.trans hl19.symm] at H
       rw [show lr37 = lp12 from hr38.trans hl13.symm] at H
       rw [show seen.length + 1 = (seen ++ [(l.getD i [])]).length by rw [List.length_append]; rfl] at H
       rw [acc_snoc (x := (l.getD i []))] at H
       rw [show acc.length + 1 = (acc ++ [(l.getD i [])]).length by rw [List.length_append]; rfl] at H
       exact ⟨rfl, mm - 1, by omega, i + 1, (seen ++ [(l.getD i [])]), (acc ++ [(l.getD i [])]), v36, (by omega), (by rw [List.length_append, List.length_singleton]; omega), (by rw [hT, dist_take hil hnew hval, List.filter_cons_of_pos (p := (fun c => begC true (runes c) (runes s))) hc32b, List.append_assoc]; rfl), H, rfl, rfl, rfl, rfl, rfl⟩
      ·have hc32b := hc32
       iterate 4 refine RW.s ?_
       refine RW.v ?_
       refine RW.nil ?_
       refine W.c0 ?_
       refine W.skip ?_
       refine bQn ?_
       refine ⟨_, _, _, 2, true, .ready, none, H, rfl, rfl, ?_⟩
       clear H; intro _ lr41 _ hr42 H
       dsimp only [setL, delL] at H
       refine RW.v ?_
       refine RW.nil ?_
       refine W.c0 ?_
       refine W.skip ?_
       refine bQn ?_
       refine W.region ?_
       refine RW.valE (v' := .int .i64 (((i : Nat) : Int) + 1)) (by kernel_rfl) (by kernel_rfl) rfl (congrArg (Value.int .i64) (wrap_in (by omega) (by omega))) (by kernel_rfl) ?_
       refine RW.v ?_
       refine RW.nil ?_
       rw [show lr41 = lp18 from hr42.trans hl19.symm] at H
       rw [show seen.length + 1 = (seen ++ [(l.getD i [])]).length by rw [List.length_append]; rfl] at H
       exact ⟨rfl, mm - 1, by omega, i + 1, (seen ++ [(l.getD i [])]), acc, u, (by omega), (by omega), (by rw [hT, dist_take hil hnew hval, List.filter_cons_of_neg (p := (fun c => begC true (runes c) (runes s))) (by rw [hc32b]; exact Bool.false_ne_true)]), H, rfl, rfl, rfl, rfl, rfl⟩
   ·have hc22b := hc22
    have hc22 := of_decide_eq_false hc22
    refine W.exit _ ?_
    refine seqQ_exit ?_
    refine rndQ_exit ?_
    have hR : T = acc := by rw [hT, List.drop_eq_nil_of_le (by omega)]; exact List.append_nil _
    refine blkQ_here ?_
    refine endG (by rfl) (by exact rfl) ?_
    refine ⟨_, _, _, 2, _, _, _, _, H, rfl, hl19, rfl, rfl, ?_⟩
    clear H; intro _ H
    dsimp only [setL, delL] at H
    refine bQn ?_
    refine endMark H 2 rfl fun _ H => ?_
    dsimp only [setL, delL] at H
    refine endGD0 (by rfl) (by exact rfl) ?_
    refine ⟨_, _, _, 3, _, _, _, _, H, rfl, hl13, rfl, rfl, ?_⟩
    clear H; intro _ H
    dsimp only [setL, delL] at H
    refine bQn ?_
    refine W.seq (W.region ?_)
    refine RW.ld H 4 1 ?_
    refine RW.v ?_
    refine RW.nil ?_
    replace H := (((H.del 4).del 2).del 1)
    dsimp only [setL, delL] at H
    refine W.ret ?_
    refine endMark H 1 rfl fun _ H => ?_
    dsimp only [setL, delL] at H
    refine endGD0 (by rfl) (by exact resL_tmp rfl) ?_
    refine RW.v ?_
    refine RW.nil ?_
    refine W.ret ?_
    refine endG (by rfl) (by exact resL_tmp rfl) ?_
    refine RW.v ?_
    refine RW.nil ?_
    replace H := (((H.del 3).del 2).del 1)
    dsimp only [setL, delL] at H
    refine W.ret ?_
    refine endG (by rfl) (by exact resL_tmp rfl) ?_
    rw [← hTd, hR]
    obtain ⟨F', le, hv, H⟩ := H.freezeSl 0 rfl
    dsimp only [setL, delL] at H
    exact ⟨F', fun b y h => le b y (le0 b y h), hv, H⟩
 | false =>
  obtain ⟨F0, hF⟩ : ∃ F0, F0 = F := ⟨_, rfl⟩
  have le0 : Le F0 F := fun b y h => hF ▸ h
  rw [← hF] at h1 hU ⊢
  refine WC.enter (fn := Tryd.f24) Tryd.func24 rfl ?_
  refine W.rg [(0, v1), (1, .string ⟨s.toArray⟩), (2, .bool false)] fun TA => ?_
  refine W.seq (W.region ?_)
  refine RW.v ?_
  refine RW.nil ?_
  refine W.rg [(0, v1), (1, .string ⟨s.toArray⟩), (2, .bool false)] fun TA => ?_
  refine W.seq ?_
  refine W.seq (W.region ?_)
  refine RW.v ?_
  refine RW.cl ?_
  refine ⟨_, _, (s_valid (hU.le (fun b y h => H.old _ _ (le0 b y h))) h16 hs), ?_⟩
  refine RW.v ?_
  refine RW.nil ?_
  refine W.rg [(0, v1), (1, .string ⟨s.toArray⟩), (2, .bool false), (11, .bool (!(validD s)))] fun TA => ?_
  refine W.cond rfl (fun hc1 => ?_) (fun hc1 => ?_)
  ·have hc1b := hc1
   have hvs : validD s = false := by simpa using hc1b
   refine W.seq (W.region ?_)
   refine RW.v ?_
   refine RW.nil ?_
   refine W.ret ?_
   refine seqQ_ret ?_
   refine endG (by rfl) (by exact resL_tmp rfl) ?_
   have ea : allC false l s = [] := by unfold allC; rw [if_neg (by rw [hvs]; exact Bool.false_ne_true)]
   rw [ea]
   exact ⟨F, le0, .nil _ rfl, H⟩
  ·have hc1b := hc1
   have hvs : validD s = true := by simpa using hc1b
   refine W.skip ?_
   refine W.seq (W.region ?_)
   refine RW.v ?_
   refine RW.cl ?_
   refine ((by_wc (fold := false) H).mono ?_)
   clear H
   rintro _ _ ⟨rfl, H⟩
   refine RW.v ?_
   refine RW.convR H hs (by kernel_rfl) (by kernel_rfl) rfl rfl rfl rfl rfl (by kernel_rfl) ?_
   clear H; intro _ cv2 H
   obtain ⟨F, le, hk3, H⟩ := H.freezeK 0 rfl
   dsimp only [setL, delL] at H
   replace le0 := fun b y h => le b y (le0 b y h)
   refine RW.mk H (.row ⟨[.nilFunc], 47, false⟩) ?_
   clear H; intro _ b4 _ H
   refine RW.mk H (.row ⟨[.slice none 0 0], 50, false⟩) ?_
   clear H; intro _ b5 _ H
   refine RW.st H 1 [.func (.func 86) #[] #[]] [.func (.func 86) #[] #[]] ?_
   clear H; intro _ _ H; dsimp only [setL, delL] at H
   refine RW.stL H 0 (vs := [cv2]) (cs' := [cv2]) (by kernel_rfl) (by kernel_rfl) rfl rfl rfl (slf_one hk3.slf) (slf_all hk3.slf) (by kernel_rfl) (Nat.le_of_ble_eq_true rfl) rfl (by kernel_rfl) ?_
   clear H; intro _ _ H; dsimp only [setL, delL] at H
   refine RW.nil ?_
   refine W.rg [(0, v1), (7, .pointer (some ⟨b4, 0, none⟩)), (8, .pointer (some ⟨b5, 0, none⟩))] fun TA => ?_
   refine W.seq (W.region ?_)
   refine RW.v ?_
   refine RW.cl ?_
   refine WC.enter (fn := Tryd.f58) Tryd.func58 rfl ?_
   refine W.rg [(0, v1)] fun TA => ?_
   refine W.seq (W.region ?_)
   refine RW.mk H (.row ⟨(v1).cells.toList, 22, false⟩) ?_
   clear H; intro _ b6 _ H
   rw [(slf_one (h1.le le0))] at H
   refine RW.v ?_
   refine RW.nil ?_
   refine W.rg [(1, .pointer (some ⟨b6, 0, none⟩))] fun TA => ?_
   refine W.seq (W.region ?_)
   refine RW.val (v := .func (.func 95) #[] #[.pointer (some ⟨b6, 0, none⟩)]) (by kernel_rfl) (by kernel_rfl) (by kernel_rfl) (by kernel_rfl) ?_
   refine RW.v ?_
   refine RW.nil ?_
   refine W.ret ?_
   refine endG (by rfl) (by exact resL_tmp rfl) ?_
   refine RW.val (v := .func (.func 62) #[] #[.pointer (some ⟨b4, 0, none⟩), .pointer (some ⟨b5, 0, none⟩)]) (by kernel_rfl) (by kernel_rfl) (by kernel_rfl) (by kernel_rfl) ?_
   obtain ⟨F, le, hb7, H⟩ := H.freeze 2 rfl
   dsimp only [setL, delL] at H
   replace le0 := fun b y h => le b y (le0 b y h)
   replace hk3 := hk3.le le
   obtain ⟨F, le, hb8, H⟩ := H.freeze 1 rfl
   dsimp only [setL, delL] at H
   replace le0 := fun b y h => le b y (le0 b y h)
   replace hk3 := hk3.le le
   replace hb7 := le _ _ hb7
   obtain ⟨T, hTd⟩ : ∃ T, T = allC false l s := ⟨_, rfl⟩
   have hT0 : T = [] ++ (distG [] (l.drop 0)).filter (fun c => begC false (runes c) (runes s)) := by rw [hTd]; unfold allC; rw [if_pos hvs]; rfl
   refine RW.cl ?_
   refine WC.enter (fn := Tryd.f57) Tryd.func57 rfl ?_
   refine W.rg [(0, .func (.func 95) #[] #[.pointer (some ⟨b6, 0, none⟩)]), (1, .func (.func 62) #[] #[.pointer (some ⟨b4, 0, none⟩), .pointer (some ⟨b5, 0, none⟩)])] fun TA => ?_
   refine W.seq (W.region ?_)
   refine RW.mk H (.row ⟨[.func (.func 95) #[] #[pt b6]], 71, false⟩) ?_
   clear H; intro _ b7 _ H
   refine RW.mk H (.row ⟨[.func (.func 62) #[] #[pt b4, pt b5]], 41, false⟩) ?_
   clear H; intro _ b8 _ H
   refine RW.v ?_
   refine RW.nil ?_
   refine W.rg [(2, .pointer (some ⟨b7, 0, none⟩)), (3, .pointer (some ⟨b8, 0, none⟩))] fun TA => ?_
   refine W.seq (W.region ?_)
   refine RW.val (v := .func (.func 94) #[] #[.pointer (some ⟨b7, 0, none⟩), .pointer (some ⟨b8, 0, none⟩)]) (by kernel_rfl) (by kernel_rfl) (by kernel_rfl) (by kernel_rfl) ?_
   refine RW.v ?_
   refine RW.nil ?_
   refine W.ret ?_
   refine endG (by rfl) (by exact resL_tmp rfl) ?_
   refine RW.cl ?_
   refine WC.enter (fn := Tryd.f56) Tryd.func56 rfl ?_
   refine W.rg [(0, .func (.func 94) #[] #[.pointer (some ⟨b7, 0, none⟩), .pointer (some ⟨b8, 0, none⟩)])] fun TA => ?_
   refine W.seq (W.region ?_)
   refine RW.v ?_
   refine RW.nil ?_
   refine W.rg [(0, .func (.func 94) #[] #[.pointer (some ⟨b7, 0, none⟩), .pointer (some ⟨b8, 0, none⟩)])] fun TA => ?_
   refine W.seq (W.region ?_)
   refine RW.v ?_
   refine RW.cl ?_
   refine WC.enterD (fn := Tryd.f93) Tryd.func93 rfl ?_
   refine W.rg [(0, .slice none 0 0), (1, .func (.func 94) #[] #[.pointer (some ⟨b7, 0, none⟩), .pointer (some ⟨b8, 0, none⟩)])] fun TA => ?_
   refine W.seq (W.region ?_)
   refine RW.mk H (.row ⟨[.slice none 0 0], 22, false⟩) ?_
   clear H; intro _ b9 _ H
   refine RW.v ?_
   refine RW.nil ?_
   refine W.rg [(1, .func (.func 94) #[] #[.pointer (some ⟨b7, 0, none⟩), .pointer (some ⟨b8, 0, none⟩)]), (2, .pointer (some ⟨b9, 0, none⟩))] fun TA => ?_
   refine W.seq ?_
   refine W.seq (W.region ?_)
   refine RW.v ?_
   refine RW.nil ?_
   refine W.rg [(2, .pointer (some ⟨b9, 0, none⟩)), (6, .func (.func 94) #[] #[.pointer (some ⟨b7, 0, none⟩), .pointer (some ⟨b8, 0, none⟩)])] fun TA => ?_
   refine W.block ?_
   refine W.rst [(2, .pointer (some ⟨b9, 0, none⟩)), (6, .func (.func 94) #[] #[.pointer (some ⟨b7, 0, none⟩), .pointer (some ⟨b8, 0, none⟩)])] ⟨rfl, rfl, trivial⟩ fun TL14 => ?_
   refine W.rangeL H rfl (fun _ h => nomatch h) (fun _ h => nomatch h) (by kernel_rfl) fun _ d10 b11 lp12 hl13 H => ?_
   refine WC.enterD (fn := Tryd.f94) Tryd.func94 rfl ?_
   refine W.rg [(0, .func (.yield b11) #[] #[]), (1, .pointer (some ⟨b7, 0, none⟩)), (2, .pointer (some ⟨b8, 0, none⟩))] fun TA => ?_
   refine W.seq (W.region ?_)
   refine RW.mk H (.row ⟨[.func (.yield b11) #[] #[]], 41, false⟩) ?_
   clear H; intro _ b15 _ H
   refine RW.nil ?_
   refine W.rg [(1, .pointer (some ⟨b7, 0, none⟩)), (2, .pointer (some ⟨b8, 0, none⟩)), (3, .pointer (some ⟨b15, 0, none⟩))] fun TA => ?_
   refine W.seq (W.region ?_)
   refine RW.ld H 5 1 ?_
   refine RW.nil ?_
   refine W.rg [(2, .pointer (some ⟨b8, 0, none⟩)), (3, .pointer (some ⟨b15, 0, none⟩)), (5, .func (.func 95) #[] #[.pointer (some ⟨b6, 0, none⟩)])] fun TA => ?_
   refine W.block ?_
   refine W.rst [(2, .pointer (some ⟨b8, 0, none⟩)), (3, .pointer (some ⟨b15, 0, none⟩)), (5, .func (.func 95) #[] #[.pointer (some ⟨b6, 0, none⟩)])] ⟨rfl, rfl, rfl, trivial⟩ fun TL20 => ?_
   refine W.rangeL H rfl (fun _ h => nomatch h) (fun _ h => nomatch h) (by kernel_rfl) fun _ d16 b17 lp18 hl19 H => ?_
   refine WC.enter (fn := Tryd.f95) Tryd.func95 rfl ?_
   refine W.rg [(0, .func (.yield b17) #[] #[]), (1, .pointer (some ⟨b6, 0, none⟩))] fun TA => ?_
   refine W.seq (W.region ?_)
   refine RW.mkM H ?_
   clear H; intro _ b21 _ H
   refine RW.v ?_
   refine RW.nil ?_
   refine W.rg [(0, .func (.yield b17) #[] #[]), (1, .pointer (some ⟨b6, 0, none⟩)), (3, .map (some b21))] fun TA => ?_
   refine W.seq (W.region ?_)
   refine RW.ld H 9 1 ?_
   refine RW.len (by kernel_rfl) (by kernel_rfl) rfl rfl rfl rfl ((h1.le le0).len (e := 9) (by kernel_rfl)) (by kernel_rfl) ?_
   refine RW.v ?_
   refine RW.nil ?_
   refine W.rg [(0, .func (.yield b17) #[] #[]), (3, .map (some b21)), (7, v1), (8, .int .i64 (l.length : Int)), (9, .int .i64 0)] fun TA => ?_
   refine W.block ?_
   replace H := H.nilSl 9 1
   refine W.loop (fun mm ta σ => ∃ (i : Nat) (seen : List (List UInt8)) (acc : List (List UInt8)) (u : Value), (mm + i = l.length) ∧ (acc.length ≤ i) ∧ (T = acc ++ (distG seen (l.drop i)).filter (fun c => begC false (runes c) (runes s))) ∧ Lies G A F σ (.sl 9 1 u acc.length (acc.map strV) :: .at_ b21 (.ents (seenE seen) seen.length) :: .at_ b17 lp18 :: .at_ d16 (.defs true) :: .at_ b15 (.row ⟨[.func (.yield b11) #[] #[]], 41, false⟩) :: .at_ b11 lp12 :: .at_ d10 (.defs true) :: .at_ b9 (.row ⟨[u], 22, false⟩) :: .at_ b8 (.row ⟨[.func (.func 62) #[] #[.pointer (some ⟨b4, 0, none⟩), .pointer (some ⟨b5, 0, none⟩)]], 41, false⟩) :: .at_ b7 (.row ⟨[.func (.func 95) #[] #[.pointer (some ⟨b6, 0, none⟩)]], 71, false⟩) :: .at_ b6 (.row ⟨[v1], 22, false⟩) :: (L)) ∧ ta 0 = .func (.yield b17) #[] #[] ∧ ta 3 = .map (some b21) ∧ ta 7 = v1 ∧ ta 8 = .int .i64 (l.length : Int) ∧ ta 9 = .int .i64 ((i : Nat) : Int)) l.length ?_ ?_
   ·exact ⟨0, [], [], .slice none 0 0, (by omega), (Nat.zero_le _), hT0, H, rfl, rfl, rfl, rfl, rfl⟩
   clear H
   rintro mm ta _ ⟨i, seen, acc, u, hm, hac, hT, H, e0, e3, e7, e8, e9⟩
   refine W.rst [(0, .func (.yield b17) #[] #[]), (3, .map (some b21)), (7, v1), (8, .int .i64 (l.length : Int)), (9, .int .i64 ((i : Nat) : Int))] ⟨e0, e3, e7, e8, e9, trivial⟩ fun TA => ?_
   clear e0 e3 e7 e8 e9
   refine W.seq (W.region ?_)
   refine RW.v ?_
   refine RW.nil ?_
   refine W.rg [(0, .func (.yield b17) #[] #[]), (3, .map (some b21)), (7, v1), (8, .int .i64 (l.length : Int)), (9, .int .i64 ((i : Nat) : Int)), (10, .bool (decide (((i : Nat) : Int) < (l.length : Int))))] fun TA => ?_
   refine W.seq ?_
   refine W.cond rfl (fun hc22 => ?_) (fun hc22 => ?_)
   ·have hc22b := hc22
    have hc22 := of_decide_eq_true hc22
    have hil : i < l.length := by omega
    refine W.skip ?_
    refine W.seq ?_
    refine W.block ?_
    refine W.seq (W.region ?_)
    refine RW.idxF (h1.le le0) (by kernel_rfl) (by kernel_rfl) rfl Tryd.underlying22 (by kernel_rfl) rfl rfl ⟨by omega, by omega⟩ (by kernel_rfl) ?_
    intro b23 q24 r25 hF26 hE27
    rw [strs_at (l := l) (j := i) (i := ((i : Nat) : Int)) (by omega) (by omega)] at hE27
    refine RW.loads 1 (by kernel_rfl) (by kernel_rfl) rfl rfl (H.old _ _ hF26) hE27 rfl (by kernel_rfl) ?_
    refine RW.v ?_
    refine RW.nil ?_
    refine W.rg [(0, .func (.yield b17) #[] #[]), (3, .map (some b21)), (5, .string ⟨(l.getD i []).toArray⟩), (7, v1), (8, .int .i64 (l.length : Int)), (9, .int .i64 ((i : Nat) : Int))] fun TA => ?_
    refine W.seq ?_
    refine W.seq (W.region ?_)
    iterate 2 refine RW.v ?_
    refine RW.lkL H 1 (.bool (decide ((l.getD i []) ∈ seen))) ?_ (hv := look_seen rfl rfl (by kernel_rfl))
    refine RW.v ?_
    refine RW.both _ _ rfl rfl rfl (fun hc28 => ?_) (fun hc28 => ?_)
    ·have hc28b := hc28
     have hc28 := of_decide_eq_true hc28
     have hskip : (l.getD i []) ∈ seen ∨ validD (l.getD i []) = false := .inl hc28
     iterate 3 refine RW.s ?_
     refine RW.v ?_
     refine RW.nil ?_
     refine W.c1 ?_
     refine W.exit _ ?_
     refine seqQ_exit ?_
     refine blkQ_here ?_
     refine W.region ?_
     refine RW.valE (v' := .int .i64 (((i : Nat) : Int) + 1)) (by kernel_rfl) (by kernel_rfl) rfl (congrArg (Value.int .i64) (wrap_in (by omega) (by omega))) (by kernel_rfl) ?_
     refine RW.v ?_
     refine RW.nil ?_
     exact ⟨rfl, mm - 1, by omega, i + 1, seen, acc, u, (by omega), (by omega), (by rw [hT, dist_skip hil hskip]), H, rfl, rfl, rfl, rfl, rfl⟩
    ·have hc28b := hc28
     have hc28 := of_decide_eq_false hc28
     have hnew := hc28
     refine RW.w ?_
     refine RW.cl (hw := by rfl) ?_
     refine ⟨_, _, (s_valid (hU.le (fun b y h => H.old _ _ (le0 b y h))) h16 (hsm _ (mem_of (by omega)))), ?_⟩
     refine RW.w ?_
     refine RW.v ?_
     refine RW.nil ?_
     refine W.rg [(0, .func (.yield b17) #[] #[]), (3, .map (some b21)), (5, .string ⟨(l.getD i []).toArray⟩), (7, v1), (8, .int .i64 (l.length : Int)), (9, .int .i64 ((i : Nat) : Int)), (20, .bool (!(validD (l.getD i []))))] fun TA => ?_
     refine W.cond rfl (fun hc29 => ?_) (fun hc29 => ?_)
     ·have hc29b := hc29
      have hval : validD (l.getD i []) = false := by simpa using hc29b
      have hskip : (l.getD i []) ∈ seen ∨ validD (l.getD i []) = false := .inr hval
      refine W.exit _ ?_
      refine seqQ_exit ?_
      refine blkQ_here ?_
      refine W.region ?_
      refine RW.valE (v' := .int .i64 (((i : Nat) : Int) + 1)) (by kernel_rfl) (by kernel_rfl) rfl (congrArg (Value.int .i64) (wrap_in (by omega) (by omega))) (by kernel_rfl) ?_
      refine RW.v ?_
      refine RW.nil ?_
      exact ⟨rfl, mm - 1, by omega, i + 1, seen, acc, u, (by omega), (by omega), (by rw [hT, dist_skip hil hskip]), H, rfl, rfl, rfl, rfl, rfl⟩
     ·have hc29b := hc29
      have hval : validD (l.getD i []) = true := by simpa using hc29b
      refine W.skip ?_
      refine W.seq (W.region ?_)
      iterate 2 refine RW.v ?_
      refine RW.upL H 1 (seenE (seen ++ [(l.getD i [])])) (seen.length + 1) ?_ (hv := upd_seen rfl rfl hnew)
      clear H; intro _ _ H; dsimp only [setL, delL] at H
      refine RW.nil ?_
      refine W.rg [(0, .func (.yield b17) #[] #[]), (3, .map (some b21)), (5, .string ⟨(l.getD i []).toArray⟩), (7, v1), (8, .int .i64 (l.length : Int)), (9, .int .i64 ((i : Nat) : Int))] fun TA => ?_
      refine W.seq (W.region ?_)
      iterate 2 refine RW.v ?_
      refine RW.yieldL H 2 rfl hl19 (by kernel_rfl) (by kernel_rfl) rfl rfl rfl rfl rfl (by kernel_rfl) ?_
      refine W.rg [(2, .pointer (some ⟨b8, 0, none⟩)), (3, .pointer (some ⟨b15, 0, none⟩)), (5, .func (.func 95) #[] #[.pointer (some ⟨b6, 0, none⟩)]), (6, .string ⟨(l.getD i []).toArray⟩)] fun TA => ?_
      refine W.region ?_
      refine RW.v ?_
      refine RW.nil ?_
      refine ⟨rfl, _, _, _, 2, H, rfl, ?_⟩
      clear H; intro _ lq30 hq31 H
      dsimp only [setL, delL] at H
      refine W.rg [(2, .pointer (some ⟨b8, 0, none⟩)), (3, .pointer (some ⟨b15, 0, none⟩)), (4, .string ⟨(l.getD i []).toArray⟩), (5, .func (.func 95) #[] #[.pointer (some ⟨b6, 0, none⟩)]), (6, .string ⟨(l.getD i []).toArray⟩)] fun TA => ?_
      refine W.block ?_
      refine W.seq (W.region ?_)
      refine RW.ld H 8 1 ?_
      refine RW.v ?_
      refine RW.cl ?_
      refine ((cl_all (fold := false) (s := (l.getD i [])) hb7 hb8 hk3.slf (runes_in s) (hsm _ (mem_of (by omega))) H).mono ?_)
      clear H
      rintro _ _ ⟨rfl, H⟩
      refine RW.v ?_
      refine RW.both _ _ rfl rfl rfl (fun hc32 => ?_) (fun hc32 => ?_)
      ·have hc32b := hc32
       refine RW.ldL H 4 1 (by rfl) (by kernel_rfl) rfl rfl rfl rfl rfl (by kernel_rfl) ?_
       refine RW.w ?_
       refine RW.yieldL H 5 rfl hl13 (by rfl) (by kernel_rfl) rfl rfl rfl rfl rfl (by kernel_rfl) ?_
       refine W.rg [(2, .pointer (some ⟨b9, 0, none⟩)), (6, .func (.func 94) #[] #[.pointer (some ⟨b7, 0, none⟩), .pointer (some ⟨b8, 0, none⟩)]), (7, .string ⟨(l.getD i []).toArray⟩)] fun TA => ?_
       refine W.region ?_
       refine RW.v ?_
       refine RW.nil ?_
       refine ⟨rfl, _, _, _, 5, H, rfl, ?_⟩
       clear H; intro _ lq33 hq34 H
       dsimp only [setL, delL] at H
       refine W.rg [(2, .pointer (some ⟨b9, 0, none⟩)), (5, .string ⟨(l.getD i []).toArray⟩), (6, .func (.func 94) #[] #[.pointer (some ⟨b7, 0, none⟩), .pointer (some ⟨b8, 0, none⟩)]), (7, .string ⟨(l.getD i []).toArray⟩)] fun TA => ?_
       refine W.block ?_
       refine W.region ?_
       refine RW.ld H 7 1 ?_
       refine RW.v ?_
       refine RW.mkL H (x := .row ⟨[.string ⟨(l.getD i []).toArray⟩], 9, false⟩) (fm := fun b => .slice (some ⟨b, 0, none⟩) 1 1) (by kernel_rfl) (by kernel_rfl) (by kernel_rfl) (by kernel_rfl) ?_
       clear H; intro _ b35 _ H
       refine RW.appL H 1 0 (n := 1) (e2 := 9) (by kernel_rfl) (by kernel_rfl) rfl rfl rfl rfl rfl rfl rfl rfl (by kernel_rfl) (by kernel_rfl) (by kernel_rfl) (by decide) (by decide) rfl rfl (by omega) (by kernel_rfl) ?_
       clear H; intro _ v36 _ H
       dsimp only [setL, delL] at H
       refine RW.stL H 7 (vs := [v36]) (cs' := [v36]) (by kernel_rfl) (by kernel_rfl) rfl rfl rfl (H.sl 0 rfl).one (gr_all (H.sl 0 rfl)) (by kernel_rfl) (Nat.le_of_ble_eq_true rfl) rfl (by kernel_rfl) ?_
       clear H; intro _ _ H; dsimp only [setL, delL] at H
       refine RW.nil ?_
       refine bQn ?_
       refine ⟨_, _, _, 5, true, .ready, none, H, rfl, rfl, ?_⟩
       clear H; intro _ lr37 _ hr38 H
       dsimp only [setL, delL] at H
       refine RW.w ?_
       refine RW.v ?_
       refine RW.nil ?_
       refine W.c0 ?_
       refine W.skip ?_
       refine bQn ?_
       refine ⟨_, _, _, 2, true, .ready, none, H, rfl, rfl, ?_⟩
       clear H; intro _ lr39 _ hr40 H
       dsimp only [setL, delL] at H
       refine RW.v ?_
       refine RW.nil ?_
       refine W.c0 ?_
       refine W.skip ?_
       refine bQn ?_
       refine W.region ?_
       refine RW.valE (v' := .int .i64 (((i : Nat) : Int) + 1)) (by kernel_rfl) (by kernel_rfl) rfl (congrArg (Value.int .i64) (wrap_in (by omega) (by omega))) (by kernel_rfl) ?_
       refine RW.v ?_
       refine RW.nil ?_
       rw [show lr39 = lp18 from hr40.trans hl19.symm] at H
       rw [show lr37 = lp12 from hr38.trans hl13.symm] at H
       rw [show seen.length + 1 = (seen ++ [(l.getD i [])]).length by rw [List.length_append]; rfl] at H
       rw [acc_snoc (x := (l.getD i []))] at H
       rw [show acc.length + 1 = (acc ++ [(l.getD i [])]).length by rw [List.length_append]; rfl] at H
       exact ⟨rfl, mm - 1, by omega, i + 1, (seen ++ [(l.getD i [])]), (acc ++ [(l.getD i [])]), v36, (by omega), (by rw [List.length_append, List.length_singleton]; omega), (by rw [hT, dist_take hil hnew hval, List.filter_cons_of_pos (p := (fun c => begC false (runes c) (runes s))) hc32b, List.append_assoc]; rfl), H, rfl, rfl, rfl, rfl, rfl⟩
      ·have hc32b := hc32
       iterate 4 refine RW.s ?_
       refine RW.v ?_
       refine RW.nil ?_
       refine W.c0 ?_
       refine W.skip ?_
       refine bQn ?_
       refine ⟨_, _, _, 2, true, .ready, none, H, rfl, rfl, ?_⟩
       clear H; intro _ lr41 _ hr42 H
       dsimp only [setL, delL] at H
       refine RW.v ?_
       refine RW.nil ?_
       refine W.c0 ?_
       refine W.skip ?_
       refine bQn ?_
       refine W.region ?_
       refine RW.valE (v' := .int .i64 (((i : Nat) : Int) + 1)) (by kernel_rfl) (by kernel_rfl) rfl (congrArg (Value.int .i64) (wrap_in (by omega) (by omega))) (by kernel_rfl) ?_
       refine RW.v ?_
       refine RW.nil ?_
       rw [show lr41 = lp18 from hr42.trans hl19.symm] at H
       rw [show seen.length + 1 = (seen ++ [(l.getD i [])]).length by rw [List.length_append]; rfl] at H
       exact ⟨rfl, mm - 1, by omega, i + 1, (seen ++ [(l.getD i [])]), acc, u, (by omega), (by omega), (by rw [hT, dist_take hil hnew hval, List.filter_cons_of_neg (p := (fun c => begC false (runes c) (runes s))) (by rw [hc32b]; exact Bool.false_ne_true)]), H, rfl, rfl, rfl, rfl, rfl⟩
   ·have hc22b := hc22
    have hc22 := of_decide_eq_false hc22
    refine W.exit _ ?_
    refine seqQ_exit ?_
    refine rndQ_exit ?_
    have hR : T = acc := by rw [hT, List.drop_eq_nil_of_le (by omega)]; exact List.append_nil _
    refine blkQ_here ?_
    refine endG (by rfl) (by exact rfl) ?_
    refine ⟨_, _, _, 2, _, _, _, _, H, rfl, hl19, rfl, rfl, ?_⟩
    clear H; intro _ H
    dsimp only [setL, delL] at H
    refine bQn ?_
    refine endMark H 2 rfl fun _ H => ?_
    dsimp only [setL, delL] at H
    refine endGD0 (by rfl) (by exact rfl) ?_
    refine ⟨_, _, _, 3, _, _, _, _, H, rfl, hl13, rfl, rfl, ?_⟩
    clear H; intro _ H
    dsimp only [setL, delL] at H
    refine bQn ?_
    refine W.seq (W.region ?_)
    refine RW.ld H 4 1 ?_
    refine RW.v ?_
    refine RW.nil ?_
    replace H := (((H.del 4).del 2).del 1)
    dsimp only [setL, delL] at H
    refine W.ret ?_
    refine endMark H 1 rfl fun _ H => ?_
    dsimp only [setL, delL] at H
    refine endGD0 (by rfl) (by exact resL_tmp rfl) ?_
    refine RW.v ?_
    refine RW.nil ?_
    refine W.ret ?_
    refine endG (by rfl) (by exact resL_tmp rfl) ?_
    refine RW.v ?_
    refine RW.nil ?_
    replace H := (((H.del 3).del 2).del 1)
    dsimp only [setL, delL] at H
    refine W.ret ?_
    refine endG (by rfl) (by exact resL_tmp rfl) ?_
    rw [← hTd, hR]
    obtain ⟨F', le, hv, H⟩ := H.freezeSl 0 rfl
    dsimp only [setL, delL] at H
    exact ⟨F', fun b y h => le b y (le0 b y h), hv, H⟩
theorem delim_wc {c : Int} (H : Lies G A F σ L) : WC G Tryd.prog 53 #[.int .i32 c] σ fun v σ' => v = .bool (delC c) ∧ Lies G A F σ' L := by
 refine WC.enter (fn := Tryd.f53) Tryd.func53 rfl ?_
 refine W.rg [(0, .int .i32 c)] fun TA => ?_
 refine W.seq (W.region ?_)
 refine RW.v ?_
 refine RW.nil ?_
 refine W.rg [(0, .int .i32 c)] fun TA => ?_
 refine W.seq ?_
 refine W.seq (W.region ?_)
 refine RW.v ?_
 refine RW.nil ?_
 refine W.rg [(3, .int .i32 c)] fun TA => ?_
 refine W.block ?_
 refine W.seq ?_
 refine W.seq (W.region ?_)
 iterate 2 refine RW.v ?_
 refine RW.nil ?_
 refine W.rg [(3, .int .i32 c), (4, .bool (c == 32))] fun TA => ?_
 refine W.cond rfl (fun hc1 => ?_) (fun hc1 => ?_)
 ·have hc1b := hc1
  have hc1 := eq_of_beq hc1
  refine W.skip ?_
  refine W.cond (b := true) (congrArg Value.bool hc1b) (fun _ => ?_) (fun h => by cases h)
  refine W.seq (W.region ?_)
  refine RW.v ?_
  refine RW.nil ?_
  refine W.ret ?_
  refine blkQ_ret ?_
  refine seqQ_ret ?_
  refine endG (by rfl) (by exact resL_tmp rfl) ?_
  have ed : delC c = true := decide_eq_true (by omega)
  rw [ed]
  exact ⟨rfl, H⟩
 ·have hc1b := hc1
  have hc1 := ne_of_beq_false hc1
  refine W.seq (W.region ?_)
  iterate 2 refine RW.v ?_
  refine RW.nil ?_
  refine W.rg [(3, .int .i32 c), (4, .bool (c == 45))] fun TA => ?_
  refine W.cond rfl (fun hc2 => ?_) (fun hc2 => ?_)
  ·have hc2b := hc2
   have hc2 := eq_of_beq hc2
   refine W.skip ?_
   refine W.cond (b := true) (congrArg Value.bool hc2b) (fun _ => ?_) (fun h => by cases h)
   refine W.seq (W.region ?_)
   refine RW.v ?_
   refine RW.nil ?_
   refine W.ret ?_
   refine blkQ_ret ?_
   refine seqQ_ret ?_
   refine endG (by rfl) (by exact resL_tmp rfl) ?_
   have ed : delC c = true := decide_eq_true (by omega)
   rw [ed]
   exact ⟨rfl, H⟩
  ·have hc2b := hc2
   have hc2 := ne_of_beq_false hc2
   refine W.seq (W.region ?_)
   iterate 2 refine RW.v ?_
   refine RW.nil ?_
   refine W.rg [(3, .int .i32 c), (4, .bool (c == 46))] fun TA => ?_
   refine W.cond rfl (fun hc3 => ?_) (fun hc3 => ?_)
   ·have hc3b := hc3
    have hc3 := eq_of_beq hc3
    refine W.skip ?_
    refine W.cond (b := true) (congrArg Value.bool hc3b) (fun _ => ?_) (fun h => by cases h)
    refine W.seq (W.region ?_)
    refine RW.v ?_
    refine RW.nil ?_
    refine W.ret ?_
    refine blkQ_ret ?_
    refine seqQ_ret ?_
    refine endG (by rfl) (by exact resL_tmp rfl) ?_
    have ed : delC c = true := decide_eq_true (by omega)
    rw [ed]
    exact ⟨rfl, H⟩
   ·have hc3b := hc3
    have hc3 := ne_of_beq_false hc3
    refine W.seq (W.region ?_)
    iterate 2 refine RW.v ?_
    refine RW.nil ?_
    refine W.rg [(3, .int .i32 c), (4, .bool (c == 47))] fun TA => ?_
    refine W.cond rfl (fun hc4 => ?_) (fun hc4 => ?_)
    ·have hc4b := hc4
     have hc4 := eq_of_beq hc4
     refine W.skip ?_
     refine W.cond (b := true) (congrArg Value.bool hc4b) (fun _ => ?_) (fun h => by cases h)
     refine W.seq (W.region ?_)
     refine RW.v ?_
     refine RW.nil ?_
     refine W.ret ?_
     refine blkQ_ret ?_
     refine seqQ_ret ?_
     refine endG (by rfl) (by exact resL_tmp rfl) ?_
     have ed : delC c = true := decide_eq_true (by omega)
     rw [ed]
     exact ⟨rfl, H⟩
    ·have hc4b := hc4
     have hc4 := ne_of_beq_false hc4
     refine W.seq (W.region ?_)
     iterate 2 refine RW.v ?_
     refine RW.nil ?_
     refine W.rg [(3, .int .i32 c), (4, .bool (c == 58))] fun TA => ?_
     refine W.cond rfl (fun hc5 => ?_) (fun hc5 => ?_)
     ·have hc5b := hc5
      have hc5 := eq_of_beq hc5
      refine W.skip ?_
      refine W.cond (b := true) (congrArg Value.bool hc5b) (fun _ => ?_) (fun h => by cases h)
      refine W.seq (W.region ?_)
      refine RW.v ?_
      refine RW.nil ?_
      refine W.ret ?_
      refine blkQ_ret ?_
      refine seqQ_ret ?_
      refine endG (by rfl) (by exact resL_tmp rfl) ?_
      have ed : delC c = true := decide_eq_true (by omega)
      rw [ed]
      exact ⟨rfl, H⟩
     ·have hc5b := hc5
      have hc5 := ne_of_beq_false hc5
      refine W.region ?_
      iterate 2 refine RW.v ?_
      refine RW.nil ?_
      refine W.rg [(4, .bool (c == 95))] fun TA => ?_
      refine W.cond rfl (fun hc6 => ?_) (fun hc6 => ?_)
      ·have hc6b := hc6
       have hc6 := eq_of_beq hc6
       refine W.seq (W.region ?_)
       refine RW.v ?_
       refine RW.nil ?_
       refine W.ret ?_
       refine blkQ_ret ?_
       refine seqQ_ret ?_
       refine endG (by rfl) (by exact resL_tmp rfl) ?_
       have ed : delC c = true := decide_eq_true (by omega)
       rw [ed]
       exact ⟨rfl, H⟩
      ·have hc6b := hc6
       have hc6 := ne_of_beq_false hc6
       refine W.skip ?_
       refine bQn ?_
       refine W.seq (W.region ?_)
       refine RW.v ?_
       refine RW.nil ?_
       refine W.ret ?_
       refine endG (by rfl) (by exact resL_tmp rfl) ?_
       have ed : delC c = false := decide_eq_false (by omega)
       rw [ed]
       exact ⟨rfl, H⟩
end
end Go.Proofs.YtjcmdifpkafdkaaDoor
