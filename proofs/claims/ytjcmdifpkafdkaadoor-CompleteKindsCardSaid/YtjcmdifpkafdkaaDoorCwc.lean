/-
 Flex. Conditions: the tables of unicode/utf8 lie.
-/
import Derived.Test.YtjcmdifpkafdkaaDoorW1
import Derived.Test.YtjcmdifpkafdkaaDoorCpf
namespace Go.Proofs.YtjcmdifpkafdkaaDoor
open Go.Lib
set_option maxRecDepth 100000
theorem one_none {fold : Bool} {s x : List UInt8} {p : Option (Int × Int)} (hp : p = subC fold (runes x) (runes s)) (h : p.isSome = false) : oneF fold s x = none := by
 unfold oneF
 rw [← hp]
 cases p with
 | none => rfl
 | some q => cases h
theorem one_some {fold : Bool} {s x : List UInt8} {p : Option (Int × Int)} (hp : p = subC fold (runes x) (runes s)) (h : p.isSome = true) : oneF fold s x = some (x, (p.getD (0, 0)).1, (p.getD (0, 0)).2, ((runes x).length : Int)) := by
 unfold oneF
 rw [← hp]
 cases p with
 | none => cases h
 | some q => rfl
theorem flx_snoc {acc : List Flx} (y : Flx) : rowX celF acc ++ [.string ⟨y.1.toArray⟩, .int .i64 y.2.1, .int .i64 y.2.2.1, .int .i64 y.2.2.2] = rowX celF (acc ++ [y]) := (rowX_snoc acc y).symm
section
variable {G : Nat} {A : Abs} {σ : Mem} {F : Nat → Option Blk2} {L : List Ent} {fold : Bool} {l : List (List UInt8)} {s : List UInt8} {v1 : Value}
set_option maxHeartbeats 8000000 in
theorem Flex_wc (hU : U8F F) (h16 : 16 ≤ G) (h1 : SlF F 1 v1 l.length (l.map strV)) (hl : l.length ≤ 40) (hsm : ∀ s ∈ l, s.length ≤ 1000000) (hs : s.length ≤ 1000000) (H : Lies G A F σ L) : WC G Tryd.prog 31 #[v1, .string ⟨s.toArray⟩, .bool fold] σ fun v σ' => ∃ F', Le F F' ∧ SlK F' 1 v (flexC fold l s).length ((flexC fold l s).map strV) ∧ Lies G A F' σ' L := by
 cases fold with
 | true =>
  obtain ⟨F0, hF⟩ : ∃ F0, F0 = F := ⟨_, rfl⟩
  have le0 : Le F0 F := fun b y h => hF ▸ h
  rw [← hF] at h1 hU ⊢
  refine WC.enterD (fn := Tryd.f31) Tryd.func31 rfl ?_
  refine W.rg [(0, v1), (1, .string ⟨s.toArray⟩), (2, .bool true)] fun TA => ?_
  refine W.seq (W.region ?_)
  refine RW.v ?_
  refine RW.nil ?_
  refine W.rg [(0, v1), (1, .string ⟨s.toArray⟩), (2, .bool true)] fun TA => ?_
  refine W.seq ?_
  refine W.seq (W.region ?_)
  refine RW.v ?_
  refine RW.cl ?_
  refine ⟨_, _, (s_valid (hU.le (fun b y h => H.old _ _ (le0 b y h))) h16 hs), ?_⟩
  refine RW.v ?_
  refine RW.nil ?_
  refine W.rg [(0, v1), (1, .string ⟨s.toArray⟩), (2, .bool true), (20, .bool (!(validD s)))] fun TA => ?_
  refine W.cond rfl (fun hc1 => ?_) (fun hc1 => ?_)
  ·have hc1b := hc1
   have hvs : validD s = false := by simpa using hc1b
   refine W.seq (W.region ?_)
   refine RW.v ?_
   refine RW.nil ?_
   refine W.ret ?_
   refine seqQ_ret ?_
   refine endGD0 (by rfl) (by exact resL_tmp rfl) ?_
   have ea : flexC true l s = [] := by unfold flexC; rw [if_neg (by rw [hvs]; exact Bool.false_ne_true)]
   rw [ea]
   exact ⟨F, le0, .nil, H⟩
  ·have hc1b := hc1
   have hvs : validD s = true := by simpa using hc1b
   refine W.skip ?_
   refine W.seq (W.region ?_)
   refine RW.v ?_
   refine RW.cl ?_
   refine ((by_wc (fold := true) H).mono ?_)
   clear H
   rintro _ _ ⟨rfl, H⟩
   refine RW.v ?_
   refine RW.convR H hs (by kernel_rfl) (by kernel_rfl) rfl rfl rfl rfl rfl (by kernel_rfl) ?_
   clear H; intro _ cv2 H
   obtain ⟨F, le, hk3, H⟩ := H.freezeK 0 rfl
   dsimp only [setL, delL] at H
   replace le0 := fun b y h => le b y (le0 b y h)
   refine RW.mk H (.row ⟨[.nilFunc], 47, false⟩) ?_
   clear H; intro _ b4 _ H
   refine RW.mk H (.row ⟨[.slice none 0 0], 50, false⟩) ?_
   clear H; intro _ b5 _ H
   refine RW.st H 1 [.func (.func 84) #[] #[]] [.func (.func 84) #[] #[]] ?_
   clear H; intro _ _ H; dsimp only [setL, delL] at H
   refine RW.stL H 0 (vs := [cv2]) (cs' := [cv2]) (by kernel_rfl) (by kernel_rfl) rfl rfl rfl (slf_one hk3.slf) (slf_all hk3.slf) (by kernel_rfl) (Nat.le_of_ble_eq_true rfl) rfl (by kernel_rfl) ?_
   clear H; intro _ _ H; dsimp only [setL, delL] at H
   refine RW.nil ?_
   refine W.rg [(0, v1), (7, .pointer (some ⟨b4, 0, none⟩)), (8, .pointer (some ⟨b5, 0, none⟩))] fun TA => ?_
   refine W.seq (W.region ?_)
   refine RW.mk H (.row ⟨[.slice none 0 0], 78, false⟩) ?_
   clear H; intro _ b6 _ H
   refine RW.nil ?_
   refine W.rg [(0, v1), (7, .pointer (some ⟨b4, 0, none⟩)), (8, .pointer (some ⟨b5, 0, none⟩)), (9, .pointer (some ⟨b6, 0, none⟩))] fun TA => ?_
   refine W.seq ?_
   refine W.seq (W.region ?_)
   refine RW.v ?_
   refine RW.cl ?_
   refine WC.enter (fn := Tryd.f58) Tryd.func58 rfl ?_
   refine W.rg [(0, v1)] fun TA => ?_
   refine W.seq (W.region ?_)
   refine RW.mk H (.row ⟨(v1).cells.toList, 22, false⟩) ?_
   clear H; intro _ b7 _ H
   rw [(slf_one (h1.le le0))] at H
   refine RW.v ?_
   refine RW.nil ?_
   refine W.rg [(1, .pointer (some ⟨b7, 0, none⟩))] fun TA => ?_
   refine W.seq (W.region ?_)
   refine RW.val (v := .func (.func 95) #[] #[.pointer (some ⟨b7, 0, none⟩)]) (by kernel_rfl) (by kernel_rfl) (by kernel_rfl) (by kernel_rfl) ?_
   refine RW.v ?_
   refine RW.nil ?_
   refine W.ret ?_
   refine endG (by rfl) (by exact resL_tmp rfl) ?_
   refine RW.nil ?_
   refine W.rg [(7, .pointer (some ⟨b4, 0, none⟩)), (8, .pointer (some ⟨b5, 0, none⟩)), (9, .pointer (some ⟨b6, 0, none⟩)), (26, .func (.func 95) #[] #[.pointer (some ⟨b7, 0, none⟩)])] fun TA => ?_
   refine W.block ?_
   refine W.rst [(7, .pointer (some ⟨b4, 0, none⟩)), (8, .pointer (some ⟨b5, 0, none⟩)), (9, .pointer (some ⟨b6, 0, none⟩)), (26, .func (.func 95) #[] #[.pointer (some ⟨b7, 0, none⟩)])] ⟨rfl, rfl, rfl, rfl, trivial⟩ fun TL12 => ?_
   refine W.rangeL H rfl (fun _ h => nomatch h) (fun _ h => nomatch h) (by kernel_rfl) fun _ d8 b9 lp10 hl11 H => ?_
   refine WC.enter (fn := Tryd.f95) Tryd.func95 rfl ?_
   refine W.rg [(0, .func (.yield b9) #[] #[]), (1, .pointer (some ⟨b7, 0, none⟩))] fun TA => ?_
   refine W.seq (W.region ?_)
   refine RW.mkM H ?_
   clear H; intro _ b13 _ H
   refine RW.v ?_
   refine RW.nil ?_
   refine W.rg [(0, .func (.yield b9) #[] #[]), (1, .pointer (some ⟨b7, 0, none⟩)), (3, .map (some b13))] fun TA => ?_
   refine W.seq (W.region ?_)
   refine RW.ld H 3 1 ?_
   refine RW.len (by kernel_rfl) (by kernel_rfl) rfl rfl rfl rfl ((h1.le le0).len (e := 9) (by kernel_rfl)) (by kernel_rfl) ?_
   refine RW.v ?_
   refine RW.nil ?_
   refine W.rg [(0, .func (.yield b9) #[] #[]), (3, .map (some b13)), (7, v1), (8, .int .i64 (l.length : Int)), (9, .int .i64 0)] fun TA => ?_
   refine W.block ?_
   replace H := H.nilSl 82 4
   skip
   obtain ⟨T, hTd⟩ : ∃ T, T = flexM true l s := ⟨_, rfl⟩
   have hT0 : T = [] ++ (distG [] (l.drop 0)).filterMap (oneF true s) := hTd
   obtain ⟨FB, hFB⟩ : ∃ FB, FB = F := ⟨_, rfl⟩
   refine W.loop (fun mm ta σ => ∃ (i : Nat) (seen : List (List UInt8)) (acc : List Flx) (u : Value), (mm + i = l.length) ∧ (acc.length ≤ i) ∧ (T = acc ++ (distG seen (l.drop i)).filterMap (oneF true s)) ∧ Lies G A F σ (.sl 82 4 u acc.length (rowX celF acc) :: .at_ b13 (.ents (seenE seen) seen.length) :: .at_ b9 lp10 :: .at_ d8 (.defs true) :: .at_ b7 (.row ⟨[v1], 22, false⟩) :: .at_ b6 (.row ⟨[u], 78, false⟩) :: .at_ b5 (.row ⟨[cv2], 50, false⟩) :: .at_ b4 (.row ⟨[.func (.func 84) #[] #[]], 47, false⟩) :: (L)) ∧ ta 0 = .func (.yield b9) #[] #[] ∧ ta 3 = .map (some b13) ∧ ta 7 = v1 ∧ ta 8 = .int .i64 (l.length : Int) ∧ ta 9 = .int .i64 ((i : Nat) : Int)) l.length ?_ ?_
   ·exact ⟨0, [], [], .slice none 0 0, (by omega), (Nat.zero_le _), hT0, H, rfl, rfl, rfl, rfl, rfl⟩
   clear H
   rintro mm ta _ ⟨i, seen, acc, u, hm, hac, hT, H, e0, e3, e7, e8, e9⟩
   refine W.rst [(0, .func (.yield b9) #[] #[]), (3, .map (some b13)), (7, v1), (8, .int .i64 (l.length : Int)), (9, .int .i64 ((i : Nat) : Int))] ⟨e0, e3, e7, e8, e9, trivial⟩ fun TA => ?_
   clear e0 e3 e7 e8 e9
   have leB : Le FB F := fun b y h => hFB ▸ h
   refine W.seq (W.region ?_)
   refine RW.v ?_
   refine RW.nil ?_
   refine W.rg [(0, .func (.yield b9) #[] #[]), (3, .map (some b13)), (7, v1), (8, .int .i64 (l.length : Int)), (9, .int .i64 ((i : Nat) : Int)), (10, .bool (decide (((i : Nat) : Int) < (l.length : Int))))] fun TA => ?_
   refine W.seq ?_
   refine W.cond rfl (fun hc14 => ?_) (fun hc14 => ?_)
   ·have hc14b := hc14
    have hc14 := of_decide_eq_true hc14
    have hil : i < l.length := by omega
    refine W.skip ?_
    refine W.seq ?_
    refine W.block ?_
    refine W.seq (W.region ?_)
    refine RW.idxF (h1.le le0) (by kernel_rfl) (by kernel_rfl) rfl Tryd.underlying22 (by kernel_rfl) rfl rfl ⟨by omega, by omega⟩ (by kernel_rfl) ?_
    intro b15 q16 r17 hF18 hE19
    rw [strs_at (l := l) (j := i) (i := ((i : Nat) : Int)) (by omega) (by omega)] at hE19
    refine RW.loads 1 (by kernel_rfl) (by kernel_rfl) rfl rfl (H.old _ _ hF18) hE19 rfl (by kernel_rfl) ?_
    refine RW.v ?_
    refine RW.nil ?_
    refine W.rg [(0, .func (.yield b9) #[] #[]), (3, .map (some b13)), (5, .string ⟨(l.getD i []).toArray⟩), (7, v1), (8, .int .i64 (l.length : Int)), (9, .int .i64 ((i : Nat) : Int))] fun TA => ?_
    refine W.seq ?_
    refine W.seq (W.region ?_)
    iterate 2 refine RW.v ?_
    refine RW.lkL H 1 (.bool (decide ((l.getD i []) ∈ seen))) ?_ (hv := look_seen rfl rfl (by kernel_rfl))
    refine RW.v ?_
    refine RW.both _ _ rfl rfl rfl (fun hc20 => ?_) (fun hc20 => ?_)
    ·have hc20b := hc20
     have hc20 := of_decide_eq_true hc20
     have hskip : (l.getD i []) ∈ seen ∨ validD (l.getD i []) = false := .inl hc20
     iterate 3 refine RW.s ?_
     refine RW.v ?_
     refine RW.nil ?_
     refine W.c1 ?_
     refine W.exit _ ?_
     refine seqQ_exit ?_
     refine blkQ_here ?_
     refine W.region ?_
     refine RW.valE (v' := .int .i64 (((i : Nat) : Int) + 1)) (by kernel_rfl) (by kernel_rfl) rfl (congrArg (Value.int .i64) (wrap_in (by omega) (by omega))) (by kernel_rfl) ?_
     refine RW.v ?_
     refine RW.nil ?_
     replace H := H.back leB
     rw [hFB] at H
     exact ⟨rfl, mm - 1, by omega, i + 1, seen, acc, u, (by omega), (by omega), (by rw [hT, dist_skip hil hskip]), H, rfl, rfl, rfl, rfl, rfl⟩
    ·have hc20b := hc20
     have hc20 := of_decide_eq_false hc20
     have hnew := hc20
     refine RW.w ?_
     refine RW.cl (hw := by rfl) ?_
     refine ⟨_, _, (s_valid (hU.le (fun b y h => H.old _ _ (le0 b y h))) h16 (hsm _ (mem_of (by omega)))), ?_⟩
     refine RW.w ?_
     refine RW.v ?_
     refine RW.nil ?_
     refine W.rg [(0, .func (.yield b9) #[] #[]), (3, .map (some b13)), (5, .string ⟨(l.getD i []).toArray⟩), (7, v1), (8, .int .i64 (l.length : Int)), (9, .int .i64 ((i : Nat) : Int)), (20, .bool (!(validD (l.getD i []))))] fun TA => ?_
     refine W.cond rfl (fun hc21 => ?_) (fun hc21 => ?_)
     ·have hc21b := hc21
      have hval : validD (l.getD i []) = false := by simpa using hc21b
      have hskip : (l.getD i []) ∈ seen ∨ validD (l.getD i []) = false := .inr hval
      refine W.exit _ ?_
      refine seqQ_exit ?_
      refine blkQ_here ?_
      refine W.region ?_
      refine RW.valE (v' := .int .i64 (((i : Nat) : Int) + 1)) (by kernel_rfl) (by kernel_rfl) rfl (congrArg (Value.int .i64) (wrap_in (by omega) (by omega))) (by kernel_rfl) ?_
      refine RW.v ?_
      refine RW.nil ?_
      replace H := H.back leB
      rw [hFB] at H
      exact ⟨rfl, mm - 1, by omega, i + 1, seen, acc, u, (by omega), (by omega), (by rw [hT, dist_skip hil hskip]), H, rfl, rfl, rfl, rfl, rfl⟩
     ·have hc21b := hc21
      have hval : validD (l.getD i []) = true := by simpa using hc21b
      refine W.skip ?_
      refine W.seq (W.region ?_)
      iterate 2 refine RW.v ?_
      refine RW.upL H 1 (seenE (seen ++ [(l.getD i [])])) (seen.length + 1) ?_ (hv := upd_seen rfl rfl hnew)
      clear H; intro _ _ H; dsimp only [setL, delL] at H
      refine RW.nil ?_
      refine W.rg [(0, .func (.yield b9) #[] #[]), (3, .map (some b13)), (5, .string ⟨(l.getD i []).toArray⟩), (7, v1), (8, .int .i64 (l.length : Int)), (9, .int .i64 ((i : Nat) : Int))] fun TA => ?_
      refine W.seq (W.region ?_)
      iterate 2 refine RW.v ?_
      refine RW.yieldL H 2 rfl hl11 (by kernel_rfl) (by kernel_rfl) rfl rfl rfl rfl rfl (by kernel_rfl) ?_
      refine W.rg [(7, .pointer (some ⟨b4, 0, none⟩)), (8, .pointer (some ⟨b5, 0, none⟩)), (9, .pointer (some ⟨b6, 0, none⟩)), (26, .func (.func 95) #[] #[.pointer (some ⟨b7, 0, none⟩)]), (27, .string ⟨(l.getD i []).toArray⟩)] fun TA => ?_
      refine W.region ?_
      refine RW.v ?_
      refine RW.nil ?_
      refine ⟨rfl, _, _, _, 2, H, rfl, ?_⟩
      clear H; intro _ lq22 hq23 H
      dsimp only [setL, delL] at H
      refine W.rg [(7, .pointer (some ⟨b4, 0, none⟩)), (8, .pointer (some ⟨b5, 0, none⟩)), (9, .pointer (some ⟨b6, 0, none⟩)), (10, .string ⟨(l.getD i []).toArray⟩), (26, .func (.func 95) #[] #[.pointer (some ⟨b7, 0, none⟩)]), (27, .string ⟨(l.getD i []).toArray⟩)] fun TA => ?_
      refine W.block ?_
      refine W.seq (W.region ?_)
      refine RW.v ?_
      refine RW.convR H (hsm _ (mem_of hil)) (by kernel_rfl) (by kernel_rfl) rfl rfl rfl rfl rfl (by kernel_rfl) ?_
      clear H; intro _ cv24 H
      obtain ⟨F, le, hk25, H⟩ := H.freezeK 0 rfl
      dsimp only [setL, delL] at H
      replace le0 := fun b y h => le b y (le0 b y h)
      replace hk3 := hk3.le le
      replace leB := fun b y h => le b y (leB b y h)
      refine RW.v ?_
      refine RW.nil ?_
      refine W.rg [(7, .pointer (some ⟨b4, 0, none⟩)), (8, .pointer (some ⟨b5, 0, none⟩)), (9, .pointer (some ⟨b6, 0, none⟩)), (10, .string ⟨(l.getD i []).toArray⟩), (11, cv24), (26, .func (.func 95) #[] #[.pointer (some ⟨b7, 0, none⟩)]), (27, .string ⟨(l.getD i []).toArray⟩)] fun TA => ?_
      refine W.seq (W.region ?_)
      refine RW.ld H 7 1 ?_
      refine RW.v ?_
      refine RW.ld H 6 1 ?_
      refine RW.cl ?_
      refine ((sub_wc (fold := true) hk25 hk3.slf (Nat.le_trans (runes_le _) (hsm _ (mem_of hil))) (Nat.le_trans (runes_le _) hs) (runes_in _) (runes_in _) H).mono ?_)
      clear H
      rintro _ _ ⟨rfl, H⟩
      obtain ⟨p, hp⟩ : ∃ p, p = subC true (runes (l.getD i [])) (runes s) := ⟨_, rfl⟩
      rw [← hp]
      iterate 7 refine RW.v ?_
      refine RW.nil ?_
      refine W.rg [(7, .pointer (some ⟨b4, 0, none⟩)), (8, .pointer (some ⟨b5, 0, none⟩)), (9, .pointer (some ⟨b6, 0, none⟩)), (10, .string ⟨(l.getD i []).toArray⟩), (11, cv24), (12, .int .i64 ((p.getD (0, 0)).1)), (13, .int .i64 ((p.getD (0, 0)).2)), (14, .bool p.isSome), (26, .func (.func 95) #[] #[.pointer (some ⟨b7, 0, none⟩)]), (27, .string ⟨(l.getD i []).toArray⟩)] fun TA => ?_
      refine W.seq (W.region ?_)
      refine RW.v ?_
      refine RW.nil ?_
      refine W.rg [(7, .pointer (some ⟨b4, 0, none⟩)), (8, .pointer (some ⟨b5, 0, none⟩)), (9, .pointer (some ⟨b6, 0, none⟩)), (10, .string ⟨(l.getD i []).toArray⟩), (11, cv24), (12, .int .i64 ((p.getD (0, 0)).1)), (13, .int .i64 ((p.getD (0, 0)).2)), (26, .func (.func 95) #[] #[.pointer (some ⟨b7, 0, none⟩)]), (27, .string ⟨(l.getD i []).toArray⟩), (38, .bool p.isSome)] fun TA => ?_
      refine W.cond rfl (fun hc26 => ?_) (fun hc26 => ?_)
      ·have hc26b := hc26
       refine W.region ?_
       refine RW.ld H 5 1 ?_
       iterate 4 refine RW.v ?_
       refine RW.len (by kernel_rfl) (by kernel_rfl) rfl rfl rfl rfl (hk25.slf.len (e := 21) (by kernel_rfl)) (by kernel_rfl) ?_
       refine RW.val (v := .agg #[.string ⟨(l.getD i []).toArray⟩, .int .i64 ((p.getD (0, 0)).1), .int .i64 ((p.getD (0, 0)).2), .int .i64 ((runes (l.getD i [])).length : Int)]) (by kernel_rfl) (by kernel_rfl) (by kernel_rfl) (by kernel_rfl) ?_
       refine RW.mkL H (x := .row ⟨[.string ⟨(l.getD i []).toArray⟩, .int .i64 ((p.getD (0, 0)).1), .int .i64 ((p.getD (0, 0)).2), .int .i64 ((runes (l.getD i [])).length : Int)], 82, false⟩) (fm := fun b => .slice (some ⟨b, 0, none⟩) 1 1) (by kernel_rfl) (by kernel_rfl) (by kernel_rfl) (by kernel_rfl) ?_
       clear H; intro _ b27 _ H
       refine RW.appL H 1 0 (n := 1) (e2 := 82) (by kernel_rfl) (by kernel_rfl) rfl rfl rfl rfl rfl rfl rfl rfl (by kernel_rfl) (by kernel_rfl) (by kernel_rfl) (by decide) (by decide) rfl rfl (by omega) (by kernel_rfl) ?_
       clear H; intro _ v28 _ H
       dsimp only [setL, delL] at H
       refine RW.stL H 5 (vs := [v28]) (cs' := [v28]) (by kernel_rfl) (by kernel_rfl) rfl rfl rfl (H.sl 0 rfl).one (gr_all (H.sl 0 rfl)) (by kernel_rfl) (Nat.le_of_ble_eq_true rfl) rfl (by kernel_rfl) ?_
       clear H; intro _ _ H; dsimp only [setL, delL] at H
       refine RW.nil ?_
       refine bQn ?_
       refine ⟨_, _, _, 2, true, .ready, none, H, rfl, rfl, ?_⟩
       clear H; intro _ lr29 _ hr30 H
       dsimp only [setL, delL] at H
       refine RW.v ?_
       refine RW.nil ?_
       refine W.c0 ?_
       refine W.skip ?_
       refine bQn ?_
       refine W.region ?_
       refine RW.valE (v' := .int .i64 (((i : Nat) : Int) + 1)) (by kernel_rfl) (by kernel_rfl) rfl (congrArg (Value.int .i64) (wrap_in (by omega) (by omega))) (by kernel_rfl) ?_
       refine RW.v ?_
       refine RW.nil ?_
       rw [show lr29 = lp10 from hr30.trans hl11.symm] at H
       replace H := H.back leB
       rw [hFB] at H
       rw [show seen.length + 1 = (seen ++ [(l.getD i [])]).length by rw [List.length_append]; rfl] at H
       rw [show acc.length + 1 = (acc ++ [((l.getD i []), (p.getD (0, 0)).1, (p.getD (0, 0)).2, ((runes (l.getD i [])).length : Int))]).length by rw [List.length_append]; rfl, flx_snoc ((l.getD i []), (p.getD (0, 0)).1, (p.getD (0, 0)).2, ((runes (l.getD i [])).length : Int))] at H
       exact ⟨rfl, mm - 1, by omega, i + 1, (seen ++ [(l.getD i [])]), (acc ++ [((l.getD i []), (p.getD (0, 0)).1, (p.getD (0, 0)).2, ((runes (l.getD i [])).length : Int))]), v28, (by omega), (by rw [List.length_append, List.length_singleton]; omega), (by rw [hT, dist_take hil hnew hval, List.filterMap_cons_some (one_some hp hc26b), List.append_assoc]; rfl), H, rfl, rfl, rfl, rfl, rfl⟩
      ·have hc26b := hc26
       refine W.skip ?_
       refine bQn ?_
       refine ⟨_, _, _, 2, true, .ready, none, H, rfl, rfl, ?_⟩
       clear H; intro _ lr31 _ hr32 H
       dsimp only [setL, delL] at H
       refine RW.v ?_
       refine RW.nil ?_
       refine W.c0 ?_
       refine W.skip ?_
       refine bQn ?_
       refine W.region ?_
       refine RW.valE (v' := .int .i64 (((i : Nat) : Int) + 1)) (by kernel_rfl) (by kernel_rfl) rfl (congrArg (Value.int .i64) (wrap_in (by omega) (by omega))) (by kernel_rfl) ?_
       refine RW.v ?_
       refine RW.nil ?_
       rw [show lr31 = lp10 from hr32.trans hl11.symm] at H
       replace H := H.back leB
       rw [hFB] at H
       rw [show seen.length + 1 = (seen ++ [(l.getD i [])]).length by rw [List.length_append]; rfl] at H
       exact ⟨rfl, mm - 1, by omega, i + 1, (seen ++ [(l.getD i [])]), acc, u, (by omega), (by omega), (by rw [hT, dist_take hil hnew hval, List.filterMap_cons_none (one_none hp hc26b)]), H, rfl, rfl, rfl, rfl, rfl⟩
   ·have hc14b := hc14
    have hc14 := of_decide_eq_false hc14
    refine W.exit _ ?_
    refine seqQ_exit ?_
    refine rndQ_exit ?_
    have hR : T = acc := by rw [hT, List.drop_eq_nil_of_le (by omega)]; exact List.append_nil _
    refine blkQ_here ?_
    refine endG (by rfl) (by exact rfl) ?_
    refine ⟨_, _, _, 2, _, _, _, _, H, rfl, hl11, rfl, rfl, ?_⟩
    clear H; intro _ H
    dsimp only [setL, delL] at H
    refine bQn ?_
    refine W.seq (W.region ?_)
    refine RW.ld H 4 1 ?_
    refine RW.cl ?_
    refine ((sortF_wc rfl (by omega) H).mono ?_)
    clear H
    rintro _ _ H
    obtain ⟨S, hS⟩ : ∃ S, S = sortL ltF acc := ⟨_, rfl⟩
    rw [← hS] at H
    have hSl : S.length = acc.length := by rw [hS]; exact (sortL_stab acc).len
    refine RW.nil ?_
    replace H := ((((H.del 6).del 5).del 3).del 1)
    dsimp only [setL, delL] at H
    refine W.rg [(9, .pointer (some ⟨b6, 0, none⟩))] fun TA => ?_
    refine W.seq (W.region ?_)
    refine RW.v ?_
    refine RW.nil ?_
    refine W.rg [(9, .pointer (some ⟨b6, 0, none⟩)), (15, .slice none 0 0)] fun TA => ?_
    refine W.seq ?_
    refine W.seq (W.region ?_)
    refine RW.ld H 2 1 ?_
    refine RW.len (by kernel_rfl) (by kernel_rfl) rfl rfl rfl rfl ((H.sl 0 rfl).len (by kernel_rfl)) (by kernel_rfl) ?_
    refine RW.v ?_
    refine RW.nil ?_
    replace H := (H.del 2)
    dsimp only [setL, delL] at H
    refine W.rg [(15, .slice none 0 0), (50, u), (51, .int .i64 ((acc.length : Nat) : Int)), (52, .int .i64 0)] fun TA => ?_
    refine W.block ?_
    replace H := H.nilSl 9 1
    refine W.loop (fun mm ta σ => ∃ (j : Nat) (o : List (List UInt8)) (w : Value), (mm + j = acc.length) ∧ (o.length ≤ j) ∧ (S.map (·.1) = o ++ (S.drop j).map (·.1)) ∧ Lies G A F σ (.sl 9 1 w o.length (o.map strV) :: .sl 82 4 u acc.length (rowX celF S) :: .at_ d8 (.defs true) :: (L)) ∧ ta 15 = w ∧ ta 50 = u ∧ ta 51 = .int .i64 ((acc.length : Nat) : Int) ∧ ta 52 = .int .i64 ((j : Nat) : Int)) acc.length ?_ ?_
    ·exact ⟨0, [], .slice none 0 0, (by omega), (Nat.zero_le _), rfl, H, rfl, rfl, rfl, rfl⟩
    clear H
    rintro mm ta _ ⟨j, o, w, hmj, hoj, hO, H, e15, e50, e51, e52⟩
    refine W.rst [(15, w), (50, u), (51, .int .i64 ((acc.length : Nat) : Int)), (52, .int .i64 ((j : Nat) : Int))] ⟨e15, e50, e51, e52, trivial⟩ fun TA => ?_
    clear e15 e50 e51 e52
    refine W.seq (W.region ?_)
    refine RW.v ?_
    refine RW.nil ?_
    refine W.rg [(15, w), (50, u), (51, .int .i64 ((acc.length : Nat) : Int)), (52, .int .i64 ((j : Nat) : Int)), (53, .bool (decide (((j : Nat) : Int) < ((acc.length : Nat) : Int))))] fun TA => ?_
    refine W.seq ?_
    refine W.cond rfl (fun hc33 => ?_) (fun hc33 => ?_)
    ·have hc33b := hc33
     have hc33 := of_decide_eq_true hc33
     refine W.skip ?_
     refine W.seq ?_
     refine W.block ?_
     refine W.seq (W.region ?_)
     refine RW.idxG H 1 rfl (by kernel_rfl) (by kernel_rfl) rfl Tryd.underlying78 (by kernel_rfl) rfl rfl ⟨by omega, by omega⟩ (by kernel_rfl) ?_
     intro b34 q35 r36 hF37 hE38
     rw [rowF_at (xs := S) (j := j) (i := ((j : Nat) : Int)) (by omega) (by first | omega | (simp only [List.length_set]; omega))] at hE38
     refine RW.loads 4 (by kernel_rfl) (by kernel_rfl) rfl rfl (hF37) hE38 rfl (by kernel_rfl) ?_
     refine RW.mk H (.row ⟨[.string ByteArray.empty, .int .i64 0, .int .i64 0, .int .i64 0], 82, false⟩) ?_
     clear H; intro _ b39 _ H
     refine RW.st H 0 [.string ⟨((gD S j).1).toArray⟩, .int .i64 ((gD S j).2.1), .int .i64 ((gD S j).2.2.1), .int .i64 ((gD S j).2.2.2)] [.string ⟨((gD S j).1).toArray⟩, .int .i64 ((gD S j).2.1), .int .i64 ((gD S j).2.2.1), .int .i64 ((gD S j).2.2.2)] ?_
     clear H; intro _ _ H; dsimp only [setL, delL] at H
     refine RW.nil ?_
     refine W.rg [(15, w), (17, .pointer (some ⟨b39, 0, none⟩)), (50, u), (51, .int .i64 ((acc.length : Nat) : Int)), (52, .int .i64 ((j : Nat) : Int))] fun TA => ?_
     refine W.region ?_
     iterate 2 refine RW.v ?_
     refine RW.ld H 0 1 ?_
     refine RW.mkL H (x := .row ⟨[.string ⟨((gD S j).1).toArray⟩], 9, false⟩) (fm := fun b => .slice (some ⟨b, 0, none⟩) 1 1) (by kernel_rfl) (by kernel_rfl) (by kernel_rfl) (by kernel_rfl) ?_
     clear H; intro _ b40 _ H
     refine RW.appL H 2 0 (n := 1) (e2 := 9) (by kernel_rfl) (by kernel_rfl) rfl rfl rfl rfl rfl rfl rfl rfl (by kernel_rfl) (by kernel_rfl) (by kernel_rfl) (by decide) (by decide) rfl rfl (by omega) (by kernel_rfl) ?_
     clear H; intro _ v41 _ H
     dsimp only [setL, delL] at H
     refine RW.v ?_
     refine RW.nil ?_
     replace H := (H.del 0)
     dsimp only [setL, delL] at H
     refine bQn ?_
     refine W.rg [(15, v41), (50, u), (51, .int .i64 ((acc.length : Nat) : Int)), (52, .int .i64 ((j : Nat) : Int))] fun TA => ?_
     refine W.region ?_
     refine RW.valE (v' := .int .i64 (((j : Nat) : Int) + 1)) (by kernel_rfl) (by kernel_rfl) rfl (congrArg (Value.int .i64) (wrap_in (by omega) (by omega))) (by kernel_rfl) ?_
     refine RW.v ?_
     refine RW.nil ?_
     rw [acc_snoc (x := (gD S j).1)] at H
     rw [show o.length + 1 = (o ++ [(gD S j).1]).length by rw [List.length_append]; rfl] at H
     exact ⟨rfl, mm - 1, by omega, j + 1, (o ++ [(gD S j).1]), v41, (by omega), (by rw [List.length_append, List.length_singleton]; omega), (by rw [hO, dropD (d := default) (show j < S.length by omega), List.map_cons, List.append_assoc]; rfl), H, rfl, rfl, rfl, rfl⟩
    ·have hc33b := hc33
     have hc33 := of_decide_eq_false hc33
     refine W.exit _ ?_
     refine seqQ_exit ?_
     refine rndQ_exit ?_
     have hE : S.map (·.1) = o := by rw [hO, List.drop_eq_nil_of_le (by omega)]; exact List.append_nil _
     refine blkQ_here ?_
     refine W.seq (W.region ?_)
     iterate 2 refine RW.v ?_
     refine RW.nil ?_
     replace H := (H.del 1)
     dsimp only [setL, delL] at H
     refine W.ret ?_
     refine endMark H 1 rfl fun _ H => ?_
     dsimp only [setL, delL] at H
     refine endGD0 (by rfl) (by exact resL_tmp rfl) ?_
     have ea : flexC true l s = o := by unfold flexC; rw [if_pos hvs, ← hTd, hR, ← hS, hE]
     rw [ea]
     obtain ⟨F', le, hv, H⟩ := H.freezeK 0 rfl
     dsimp only [setL, delL] at H
     exact ⟨F', fun b y h => le b y (le0 b y h), hv, H⟩
 | false =>
  obtain ⟨F0, hF⟩ : ∃ F0, F0 = F := ⟨_, rfl⟩
  have le0 : Le F0 F := fun b y h => hF ▸ h
  rw [← hF] at h1 hU ⊢
  refine WC.enterD (fn := Tryd.f31) Tryd.func31 rfl ?_
  refine W.rg [(0, v1), (1, .string ⟨s.toArray⟩), (2, .bool false)] fun TA => ?_
  refine W.seq (W.region ?_)
  refine RW.v ?_
  refine RW.nil ?_
  refine W.rg [(0, v1), (1, .string ⟨s.toArray⟩), (2, .bool false)] fun TA => ?_
  refine W.seq ?_
  refine W.seq (W.region ?_)
  refine RW.v ?_
  refine RW.cl ?_
  refine ⟨_, _, (s_valid (hU.le (fun b y h => H.old _ _ (le0 b y h))) h16 hs), ?_⟩
  refine RW.v ?_
  refine RW.nil ?_
  refine W.rg [(0, v1), (1, .string ⟨s.toArray⟩), (2, .bool false), (20, .bool (!(validD s)))] fun TA => ?_
  refine W.cond rfl (fun hc1 => ?_) (fun hc1 => ?_)
  ·have hc1b := hc1
   have hvs : validD s = false := by simpa using hc1b
   refine W.seq (W.region ?_)
   refine RW.v ?_
   refine RW.nil ?_
   refine W.ret ?_
   refine seqQ_ret ?_
   refine endGD0 (by rfl) (by exact resL_tmp rfl) ?_
   have ea : flexC false l s = [] := by unfold flexC; rw [if_neg (by rw [hvs]; exact Bool.false_ne_true)]
   rw [ea]
   exact ⟨F, le0, .nil, H⟩
  ·have hc1b := hc1
   have hvs : validD s = true := by simpa using hc1b
   refine W.skip ?_
   refine W.seq (W.region ?_)
   refine RW.v ?_
   refine RW.cl ?_
   refine ((by_wc (fold := false) H).mono ?_)
   clear H
   rintro _ _ ⟨rfl, H⟩
   refine RW.v ?_
   refine RW.convR H hs (by kernel_rfl) (by kernel_rfl) rfl rfl rfl rfl rfl (by kernel_rfl) ?_
   clear H; intro _ cv2 H
   obtain ⟨F, le, hk3, H⟩ := H.freezeK 0 rfl
   dsimp only [setL, delL] at H
   replace le0 := fun b y h => le b y (le0 b y h)
   refine RW.mk H (.row ⟨[.nilFunc], 47, false⟩) ?_
   clear H; intro _ b4 _ H
   refine RW.mk H (.row ⟨[.slice none 0 0], 50, false⟩) ?_
   clear H; intro _ b5 _ H
   refine RW.st H 1 [.func (.func 86) #[] #[]] [.func (.func 86) #[] #[]] ?_
   clear H; intro _ _ H; dsimp only [setL, delL] at H
   refine RW.stL H 0 (vs := [cv2]) (cs' := [cv2]) (by kernel_rfl) (by kernel_rfl) rfl rfl rfl (slf_one hk3.slf) (slf_all hk3.slf) (by kernel_rfl) (Nat.le_of_ble_eq_true rfl) rfl (by kernel_rfl) ?_
   clear H; intro _ _ H; dsimp only [setL, delL] at H
   refine RW.nil ?_
   refine W.rg [(0, v1), (7, .pointer (some ⟨b4, 0, none⟩)), (8, .pointer (some ⟨b5, 0, none⟩))] fun TA => ?_
   refine W.seq (W.region ?_)
   refine RW.mk H (.row ⟨[.slice none 0 0], 78, false⟩) ?_
   clear H; intro _ b6 _ H
   refine RW.nil ?_
   refine W.rg [(0, v1), (7, .pointer (some ⟨b4, 0, none⟩)), (8, .pointer (some ⟨b5, 0, none⟩)), (9, .pointer (some ⟨b6, 0, none⟩))] fun TA => ?_
   refine W.seq ?_
   refine W.seq (W.region ?_)
   refine RW.v ?_
   refine RW.cl ?_
   refine WC.enter (fn := Tryd.f58) Tryd.func58 rfl ?_
   refine W.rg [(0, v1)] fun TA => ?_
   refine W.seq (W.region ?_)
   refine RW.mk H (.row ⟨(v1).cells.toList, 22, false⟩) ?_
   clear H; intro _ b7 _ H
   rw [(slf_one (h1.le le0))] at H
   refine RW.v ?_
   refine RW.nil ?_
   refine W.rg [(1, .pointer (some ⟨b7, 0, none⟩))] fun TA => ?_
   refine W.seq (W.region ?_)
   refine RW.val (v := .func (.func 95) #[] #[.pointer (some ⟨b7, 0, none⟩)]) (by kernel_rfl) (by kernel_rfl) (by kernel_rfl) (by kernel_rfl) ?_
   refine RW.v ?_
   refine RW.nil ?_
   refine W.ret ?_
   refine endG (by rfl) (by exact resL_tmp rfl) ?_
   refine RW.nil ?_
   refine W.rg [(7, .pointer (some ⟨b4, 0, none⟩)), (8, .pointer (some ⟨b5, 0, none⟩)), (9, .pointer (some ⟨b6, 0, none⟩)), (26, .func (.func 95) #[] #[.pointer (some ⟨b7, 0, none⟩)])] fun TA => ?_
   refine W.block ?_
   refine W.rst [(7, .pointer (some ⟨b4, 0, none⟩)), (8, .pointer (some ⟨b5, 0, none⟩)), (9, .pointer (some ⟨b6, 0, none⟩)), (26, .func (.func 95) #[] #[.pointer (some ⟨b7, 0, none⟩)])] ⟨rfl, rfl, rfl, rfl, trivial⟩ fun TL12 => ?_
   refine W.rangeL H rfl (fun _ h => nomatch h) (fun _ h => nomatch h) (by kernel_rfl) fun _ d8 b9 lp10 hl11 H => ?_
   refine WC.enter (fn := Tryd.f95) Tryd.func95 rfl ?_
   refine W.rg [(0, .func (.yield b9) #[] #[]), (1, .pointer (some ⟨b7, 0, none⟩))] fun TA => ?_
   refine W.seq (W.region ?_)
   refine RW.mkM H ?_
   clear H; intro _ b13 _ H
   refine RW.v ?_
   refine RW.nil ?_
   refine W.rg [(0, .func (.yield b9) #[] #[]), (1, .pointer (some ⟨b7, 0, none⟩)), (3, .map (some b13))] fun TA => ?_
   refine W.seq (W.region ?_)
   refine RW.ld H 3 1 ?_
   refine RW.len (by kernel_rfl) (by kernel_rfl) rfl rfl rfl rfl ((h1.le le0).len (e := 9) (by kernel_rfl)) (by kernel_rfl) ?_
   refine RW.v ?_
   refine RW.nil ?_
   refine W.rg [(0, .func (.yield b9) #[] #[]), (3, .map (some b13)), (7, v1), (8, .int .i64 (l.length : Int)), (9, .int .i64 0)] fun TA => ?_
   refine W.block ?_
   replace H := H.nilSl 82 4
   skip
   obtain ⟨T, hTd⟩ : ∃ T, T = flexM false l s := ⟨_, rfl⟩
   have hT0 : T = [] ++ (distG [] (l.drop 0)).filterMap (oneF false s) := hTd
   obtain ⟨FB, hFB⟩ : ∃ FB, FB = F := ⟨_, rfl⟩
   refine W.loop (fun mm ta σ => ∃ (i : Nat) (seen : List (List UInt8)) (acc : List Flx) (u : Value), (mm + i = l.length) ∧ (acc.length ≤ i) ∧ (T = acc ++ (distG seen (l.drop i)).filterMap (oneF false s)) ∧ Lies G A F σ (.sl 82 4 u acc.length (rowX celF acc) :: .at_ b13 (.ents (seenE seen) seen.length) :: .at_ b9 lp10 :: .at_ d8 (.defs true) :: .at_ b7 (.row ⟨[v1], 22, false⟩) :: .at_ b6 (.row ⟨[u], 78, false⟩) :: .at_ b5 (.row ⟨[cv2], 50, false⟩) :: .at_ b4 (.row ⟨[.func (.func 86) #[] #[]], 47, false⟩) :: (L)) ∧ ta 0 = .func (.yield b9) #[] #[] ∧ ta 3 = .map (some b13) ∧ ta 7 = v1 ∧ ta 8 = .int .i64 (l.length : Int) ∧ ta 9 = .int .i64 ((i : Nat) : Int)) l.length ?_ ?_
   ·exact ⟨0, [], [], .slice none 0 0, (by omega), (Nat.zero_le _), hT0, H, rfl, rfl, rfl, rfl, rfl⟩
   clear H
   rintro mm ta _ ⟨i, seen, acc, u, hm, hac, hT, H, e0, e3, e7, e8, e9⟩
   refine W.rst [(0, .func (.yield b9) #[] #[]), (3, .map (some b13)), (7, v1), (8, .int .i64 (l.length : Int)), (9, .int .i64 ((i : Nat) : Int))] ⟨e0, e3, e7, e8, e9, trivial⟩ fun TA => ?_
   clear e0 e3 e7 e8 e9
   have leB : Le FB F := fun b y h => hFB ▸ h
   refine W.seq (W.region ?_)
   refine RW.v ?_
   refine RW.nil ?_
   refine W.rg [(0, .func (.yield b9) #[] #[]), (3, .map (some b13)), (7, v1), (8, .int .i64 (l.length : Int)), (9, .int .i64 ((i : Nat) : Int)), (10, .bool (decide (((i : Nat) : Int) < (l.length : Int))))] fun TA => ?_
   refine W.seq ?_
   refine W.cond rfl (fun hc14 => ?_) (fun hc14 => ?_)
   ·have hc14b := hc14
    have hc14 := of_decide_eq_true hc14
    have hil : i < l.length := by omega
    refine W.skip ?_
    refine W.seq ?_
    refine W.block ?_
    refine W.seq (W.region ?_)
    refine RW.idxF (h1.le le0) (by kernel_rfl) (by kernel_rfl) rfl Tryd.underlying22 (by kernel_rfl) rfl rfl ⟨by omega, by omega⟩ (by kernel_rfl) ?_
    intro b15 q16 r17 hF18 hE19
    rw [strs_at (l := l) (j := i) (i := ((i : Nat) : Int)) (by omega) (by omega)] at hE19
    refine RW.loads 1 (by kernel_rfl) (by kernel_rfl) rfl rfl (H.old _ _ hF18) hE19 rfl (by kernel_rfl) ?_
    refine RW.v ?_
    refine RW.nil ?_
    refine W.rg [(0, .func (.yield b9) #[] #[]), (3, .map (some b13)), (5, .string ⟨(l.getD i []).toArray⟩), (7, v1), (8, .int .i64 (l.length : Int)), (9, .int .i64 ((i : Nat) : Int))] fun TA => ?_
    refine W.seq ?_
    refine W.seq (W.region ?_)
    iterate 2 refine RW.v ?_
    refine RW.lkL H 1 (.bool (decide ((l.getD i []) ∈ seen))) ?_ (hv := look_seen rfl rfl (by kernel_rfl))
    refine RW.v ?_
    refine RW.both _ _ rfl rfl rfl (fun hc20 => ?_) (fun hc20 => ?_)
    ·have hc20b := hc20
     have hc20 := of_decide_eq_true hc20
     have hskip : (l.getD i []) ∈ seen ∨ validD (l.getD i []) = false := .inl hc20
     iterate 3 refine RW.s ?_
     refine RW.v ?_
     refine RW.nil ?_
     refine W.c1 ?_
     refine W.exit _ ?_
     refine seqQ_exit ?_
     refine blkQ_here ?_
     refine W.region ?_
     refine RW.valE (v' := .int .i64 (((i : Nat) : Int) + 1)) (by kernel_rfl) (by kernel_rfl) rfl (congrArg (Value.int .i64) (wrap_in (by omega) (by omega))) (by kernel_rfl) ?_
     refine RW.v ?_
     refine RW.nil ?_
     replace H := H.back leB
     rw [hFB] at H
     exact ⟨rfl, mm - 1, by omega, i + 1, seen, acc, u, (by omega), (by omega), (by rw [hT, dist_skip hil hskip]), H, rfl, rfl, rfl, rfl, rfl⟩
    ·have hc20b := hc20
     have hc20 := of_decide_eq_false hc20
     have hnew := hc20
     refine RW.w ?_
     refine RW.cl (hw := by rfl) ?_
     refine ⟨_, _, (s_valid (hU.le (fun b y h => H.old _ _ (le0 b y h))) h16 (hsm _ (mem_of (by omega)))), ?_⟩
     refine RW.w ?_
     refine RW.v ?_
     refine RW.nil ?_
     refine W.rg [(0, .func (.yield b9) #[] #[]), (3, .map (some b13)), (5, .string ⟨(l.getD i []).toArray⟩), (7, v1), (8, .int .i64 (l.length : Int)), (9, .int .i64 ((i : Nat) : Int)), (20, .bool (!(validD (l.getD i []))))] fun TA => ?_
     refine W.cond rfl (fun hc21 => ?_) (fun hc21 => ?_)
     ·have hc21b := hc21
      have hval : validD (l.getD i []) = false := by simpa using hc21b
      have hskip : (l.getD i []) ∈ seen ∨ validD (l.getD i []) = false := .inr hval
      refine W.exit _ ?_
      refine seqQ_exit ?_
      refine blkQ_here ?_
      refine W.region ?_
      refine RW.valE (v' := .int .i64 (((i : Nat) : Int) + 1)) (by kernel_rfl) (by kernel_rfl) rfl (congrArg (Value.int .i64) (wrap_in (by omega) (by omega))) (by kernel_rfl) ?_
      refine RW.v ?_
      refine RW.nil ?_
      replace H := H.back leB
      rw [hFB] at H
      exact ⟨rfl, mm - 1, by omega, i + 1, seen, acc, u, (by omega), (by omega), (by rw [hT, dist_skip hil hskip]), H, rfl, rfl, rfl, rfl, rfl⟩
     ·have hc21b := hc21
      have hval : validD (l.getD i []) = true := by simpa using hc21b
      refine W.skip ?_
      refine W.seq (W.region ?_)
      iterate 2 refine RW.v ?_
      refine RW.upL H 1 (seenE (seen ++ [(l.getD i [])])) (seen.length + 1) ?_ (hv := upd_seen rfl rfl hnew)
      clear H; intro _ _ H; dsimp only [setL, delL] at H
      refine RW.nil ?_
      refine W.rg [(0, .func (.yield b9) #[] #[]), (3, .map (some b13)), (5, .string ⟨(l.getD i []).toArray⟩), (7, v1), (8, .int .i64 (l.length : Int)), (9, .int .i64 ((i : Nat) : Int))] fun TA => ?_
      refine W.seq (W.region ?_)
      iterate 2 refine RW.v ?_
      refine RW.yieldL H 2 rfl hl11 (by kernel_rfl) (by kernel_rfl) rfl rfl rfl rfl rfl (by kernel_rfl) ?_
      refine W.rg [(7, .pointer (some ⟨b4, 0, none⟩)), (8, .pointer (some ⟨b5, 0, none⟩)), (9, .pointer (some ⟨b6, 0, none⟩)), (26, .func (.func 95) #[] #[.pointer (some ⟨b7, 0, none⟩)]), (27, .string ⟨(l.getD i []).toArray⟩)] fun TA => ?_
      refine W.region ?_
      refine RW.v ?_
      refine RW.nil ?_
      refine ⟨rfl, _, _, _, 2, H, rfl, ?_⟩
      clear H; intro _ lq22 hq23 H
      dsimp only [setL, delL] at H
      refine W.rg [(7, .pointer (some ⟨b4, 0, none⟩)), (8, .pointer (some ⟨b5, 0, none⟩)), (9, .pointer (some ⟨b6, 0, none⟩)), (10, .string ⟨(l.getD i []).toArray⟩), (26, .func (.func 95) #[] #[.pointer (some ⟨b7, 0, none⟩)]), (27, .string ⟨(l.getD i []).toArray⟩)] fun TA => ?_
      refine W.block ?_
      refine W.seq (W.region ?_)
      refine RW.v ?_
      refine RW.convR H (hsm _ (mem_of hil)) (by kernel_rfl) (by kernel_rfl) rfl rfl rfl rfl rfl (by kernel_rfl) ?_
      clear H; intro _ cv24 H
      obtain ⟨F, le, hk25, H⟩ := H.freezeK 0 rfl
      dsimp only [setL, delL] at H
      replace le0 := fun b y h => le b y (le0 b y h)
      replace hk3 := hk3.le le
      replace leB := fun b y h => le b y (leB b y h)
      refine RW.v ?_
      refine RW.nil ?_
      refine W.rg [(7, .pointer (some ⟨b4, 0, none⟩)), (8, .pointer (some ⟨b5, 0, none⟩)), (9, .pointer (some ⟨b6, 0, none⟩)), (10, .string ⟨(l.getD i []).toArray⟩), (11, cv24), (26, .func (.func 95) #[] #[.pointer (some ⟨b7, 0, none⟩)]), (27, .string ⟨(l.getD i []).toArray⟩)] fun TA => ?_
      refine W.seq (W.region ?_)
      refine RW.ld H 7 1 ?_
      refine RW.v ?_
      refine RW.ld H 6 1 ?_
      refine RW.cl ?_
      refine ((sub_wc (fold := false) hk25 hk3.slf (Nat.le_trans (runes_le _) (hsm _ (mem_of hil))) (Nat.le_trans (runes_le _) hs) (runes_in _) (runes_in _) H).mono ?_)
      clear H
      rintro _ _ ⟨rfl, H⟩
      obtain ⟨p, hp⟩ : ∃ p, p = subC false (runes (l.getD i [])) (runes s) := ⟨_, rfl⟩
      rw [← hp]
      iterate 7 refine RW.v ?_
      refine RW.nil ?_
      refine W.rg [(7, .pointer (some ⟨b4, 0, none⟩)), (8, .pointer (some ⟨b5, 0, none⟩)), (9, .pointer (some ⟨b6, 0, none⟩)), (10, .string ⟨(l.getD i []).toArray⟩), (11, cv24), (12, .int .i64 ((p.getD (0, 0)).1)), (13, .int .i64 ((p.getD (0, 0)).2)), (14, .bool p.isSome), (26, .func (.func 95) #[] #[.pointer (some ⟨b7, 0, none⟩)]), (27, .string ⟨(l.getD i []).toArray⟩)] fun TA => ?_
      refine W.seq (W.region ?_)
      refine RW.v ?_
      refine RW.nil ?_
      refine W.rg [(7, .pointer (some ⟨b4, 0, none⟩)), (8, .pointer (some ⟨b5, 0, none⟩)), (9, .pointer (some ⟨b6, 0, none⟩)), (10, .string ⟨(l.getD i []).toArray⟩), (11, cv24), (12, .int .i64 ((p.getD (0, 0)).1)), (13, .int .i64 ((p.getD (0, 0)).2)), (26, .func (.func 95) #[] #[.pointer (some ⟨b7, 0, none⟩)]), (27, .string ⟨(l.getD i []).toArray⟩), (38, .bool p.isSome)] fun TA => ?_
      refine W.cond rfl (fun hc26 => ?_) (fun hc26 => ?_)
      ·have hc26b := hc26
       refine W.region ?_
       refine RW.ld H 5 1 ?_
       iterate 4 refine RW.v ?_
       refine RW.len (by kernel_rfl) (by kernel_rfl) rfl rfl rfl rfl (hk25.slf.len (e := 21) (by kernel_rfl)) (by kernel_rfl) ?_
       refine RW.val (v := .agg #[.string ⟨(l.getD i []).toArray⟩, .int .i64 ((p.getD (0, 0)).1), .int .i64 ((p.getD (0, 0)).2), .int .i64 ((runes (l.getD i [])).length : Int)]) (by kernel_rfl) (by kernel_rfl) (by kernel_rfl) (by kernel_rfl) ?_
       refine RW.mkL H (x := .row ⟨[.string ⟨(l.getD i []).toArray⟩, .int .i64 ((p.getD (0, 0)).1), .int .i64 ((p.getD (0, 0)).2), .int .i64 ((runes (l.getD i [])).length : Int)], 82, false⟩) (fm := fun b => .slice (some ⟨b, 0, none⟩) 1 1) (by kernel_rfl) (by kernel_rfl) (by kernel_rfl) (by kernel_rfl) ?_
       clear H; intro _ b27 _ H
       refine RW.appL H 1 0 (n := 1) (e2 := 82) (by kernel_rfl) (by kernel_rfl) rfl rfl rfl rfl rfl rfl rfl rfl (by kernel_rfl) (by kernel_rfl) (by kernel_rfl) (by decide) (by decide) rfl rfl (by omega) (by kernel_rfl) ?_
       clear H; intro _ v28 _ H
       dsimp only [setL, delL] at H
       refine RW.stL H 5 (vs := [v28]) (cs' := [v28]) (by kernel_rfl) (by kernel_rfl) rfl rfl rfl (H.sl 0 rfl).one (gr_all (H.sl 0 rfl)) (by kernel_rfl) (Nat.le_of_ble_eq_true rfl) rfl (by kernel_rfl) ?_
       clear H; intro _ _ H; dsimp only [setL, delL] at H
       refine RW.nil ?_
       refine bQn ?_
       refine ⟨_, _, _, 2, true, .ready, none, H, rfl, rfl, ?_⟩
       clear H; intro _ lr29 _ hr30 H
       dsimp only [setL, delL] at H
       refine RW.v ?_
       refine RW.nil ?_
       refine W.c0 ?_
       refine W.skip ?_
       refine bQn ?_
       refine W.region ?_
       refine RW.valE (v' := .int .i64 (((i : Nat) : Int) + 1)) (by kernel_rfl) (by kernel_rfl) rfl (congrArg (Value.int .i64) (wrap_in (by omega) (by omega))) (by kernel_rfl) ?_
       refine RW.v ?_
       refine RW.nil ?_
       rw [show lr29 = lp10 from hr30.trans hl11.symm] at H
       replace H := H.back leB
       rw [hFB] at H
       rw [show seen.length + 1 = (seen ++ [(l.getD i [])]).length by rw [List.length_append]; rfl] at H
       rw [show acc.length + 1 = (acc ++ [((l.getD i []), (p.getD (0, 0)).1, (p.getD (0, 0)).2, ((runes (l.getD i [])).length : Int))]).length by rw [List.length_append]; rfl, flx_snoc ((l.getD i []), (p.getD (0, 0)).1, (p.getD (0, 0)).2, ((runes (l.getD i [])).length : Int))] at H
       exact ⟨rfl, mm - 1, by omega, i + 1, (seen ++ [(l.getD i [])]), (acc ++ [((l.getD i []), (p.getD (0, 0)).1, (p.getD (0, 0)).2, ((runes (l.getD i [])).length : Int))]), v28, (by omega), (by rw [List.length_append, List.length_singleton]; omega), (by rw [hT, dist_take hil hnew hval, List.filterMap_cons_some (one_some hp hc26b), List.append_assoc]; rfl), H, rfl, rfl, rfl, rfl, rfl⟩
      ·have hc26b := hc26
       refine W.skip ?_
       refine bQn ?_
       refine ⟨_, _, _, 2, true, .ready, none, H, rfl, rfl, ?_⟩
       clear H; intro _ lr31 _ hr32 H
       dsimp only [setL, delL] at H
       refine RW.v ?_
       refine RW.nil ?_
       refine W.c0 ?_
       refine W.skip ?_
       refine bQn ?_
       refine W.region ?_
       refine RW.valE (v' := .int .i64 (((i : Nat) : Int) + 1)) (by kernel_rfl) (by kernel_rfl) rfl (congrArg (Value.int .i64) (wrap_in (by omega) (by omega))) (by kernel_rfl) ?_
       refine RW.v ?_
       refine RW.nil ?_
       rw [show lr31 = lp10 from hr32.trans hl11.symm] at H
       replace H := H.back leB
       rw [hFB] at H
       rw [show seen.length + 1 = (seen ++ [(l.getD i [])]).length by rw [List.length_append]; rfl] at H
       exact ⟨rfl, mm - 1, by omega, i + 1, (seen ++ [(l.getD i [])]), acc, u, (by omega), (by omega), (by rw [hT, dist_take hil hnew hval, List.filterMap_cons_none (one_none hp hc26b)]), H, rfl, rfl, rfl, rfl, rfl⟩
   ·have hc14b := hc14
    have hc14 := of_decide_eq_false hc14
    refine W.exit _ ?_
    refine seqQ_exit ?_
    refine rndQ_exit ?_
    have hR : T = acc := by rw [hT, List.drop_eq_nil_of_le (by omega)]; exact List.append_nil _
    refine blkQ_here ?_
    refine endG (by rfl) (by exact rfl) ?_
    refine ⟨_, _, _, 2, _, _, _, _, H, rfl, hl11, rfl, rfl, ?_⟩
    clear H; intro _ H
    dsimp only [setL, delL] at H
    refine bQn ?_
    refine W.seq (W.region ?_)
    refine RW.ld H 4 1 ?_
    refine RW.cl ?_
    refine ((sortF_wc rfl (by omega) H).mono ?_)
    clear H
    rintro _ _ H
    obtain ⟨S, hS⟩ : ∃ S, S = sortL ltF acc := ⟨_, rfl⟩
    rw [← hS] at H
    have hSl : S.length = acc.length := by rw [hS]; exact (sortL_stab acc).len
    refine RW.nil ?_
    replace H := ((((H.del 6).del 5).del 3).del 1)
    dsimp only [setL, delL] at H
    refine W.rg [(9, .pointer (some ⟨b6, 0, none⟩))] fun TA => ?_
    refine W.seq (W.region ?_)
    refine RW.v ?_
    refine RW.nil ?_
    refine W.rg [(9, .pointer (some ⟨b6, 0, none⟩)), (15, .slice none 0 0)] fun TA => ?_
    refine W.seq ?_
    refine W.seq (W.region ?_)
    refine RW.ld H 2 1 ?_
    refine RW.len (by kernel_rfl) (by kernel_rfl) rfl rfl rfl rfl ((H.sl 0 rfl).len (by kernel_rfl)) (by kernel_rfl) ?_
    refine RW.v ?_
    refine RW.nil ?_
    replace H := (H.del 2)
    dsimp only [setL, delL] at H
    refine W.rg [(15, .slice none 0 0), (50, u), (51, .int .i64 ((acc.length : Nat) : Int)), (52, .int .i64 0)] fun TA => ?_
    refine W.block ?_
    replace H := H.nilSl 9 1
    refine W.loop (fun mm ta σ => ∃ (j : Nat) (o : List (List UInt8)) (w : Value), (mm + j = acc.length) ∧ (o.length ≤ j) ∧ (S.map (·.1) = o ++ (S.drop j).map (·.1)) ∧ Lies G A F σ (.sl 9 1 w o.length (o.map strV) :: .sl 82 4 u acc.length (rowX celF S) :: .at_ d8 (.defs true) :: (L)) ∧ ta 15 = w ∧ ta 50 = u ∧ ta 51 = .int .i64 ((acc.length : Nat) : Int) ∧ ta 52 = .int .i64 ((j : Nat) : Int)) acc.length ?_ ?_
    ·exact ⟨0, [], .slice none 0 0, (by omega), (Nat.zero_le _), rfl, H, rfl, rfl, rfl, rfl⟩
    clear H
    rintro mm ta _ ⟨j, o, w, hmj, hoj, hO, H, e15, e50, e51, e52⟩
    refine W.rst [(15, w), (50, u), (51, .int .i64 ((acc.length : Nat) : Int)), (52, .int .i64 ((j : Nat) : Int))] ⟨e15, e50, e51, e52, trivial⟩ fun TA => ?_
    clear e15 e50 e51 e52
    refine W.seq (W.region ?_)
    refine RW.v ?_
    refine RW.nil ?_
    refine W.rg [(15, w), (50, u), (51, .int .i64 ((acc.length : Nat) : Int)), (52, .int .i64 ((j : Nat) : Int)), (53, .bool (decide (((j : Nat) : Int) < ((acc.length : Nat) : Int))))] fun TA => ?_
    refine W.seq ?_
    refine W.cond rfl (fun hc33 => ?_) (fun hc33 => ?_)
    ·have hc33b := hc33
     have hc33 := of_decide_eq_true hc33
     refine W.skip ?_
     refine W.seq ?_
     refine W.block ?_
     refine W.seq (W.region ?_)
     refine RW.idxG H 1 rfl (by kernel_rfl) (by kernel_rfl) rfl Tryd.underlying78 (by kernel_rfl) rfl rfl ⟨by omega, by omega⟩ (by kernel_rfl) ?_
     intro b34 q35 r36 hF37 hE38
     rw [rowF_at (xs := S) (j := j) (i := ((j : Nat) : Int)) (by omega) (by first | omega | (simp only [List.length_set]; omega))] at hE38
     refine RW.loads 4 (by kernel_rfl) (by kernel_rfl) rfl rfl (hF37) hE38 rfl (by kernel_rfl) ?_
     refine RW.mk H (.row ⟨[.string ByteArray.empty, .int .i64 0, .int .i64 0, .int .i64 0], 82, false⟩) ?_
     clear H; intro _ b39 _ H
     refine RW.st H 0 [.string ⟨((gD S j).1).toArray⟩, .int .i64 ((gD S j).2.1), .int .i64 ((gD S j).2.2.1), .int .i64 ((gD S j).2.2.2)] [.string ⟨((gD S j).1).toArray⟩, .int .i64 ((gD S j).2.1), .int .i64 ((gD S j).2.2.1), .int .i64 ((gD S j).2.2.2)] ?_
     clear H; intro _ _ H; dsimp only [setL, delL] at H
     refine RW.nil ?_
     refine W.rg [(15, w), (17, .pointer (some ⟨b39, 0, none⟩)), (50, u), (51, .int .i64 ((acc.length : Nat) : Int)), (52, .int .i64 ((j : Nat) : Int))] fun TA => ?_
     refine W.region ?_
     iterate 2 refine RW.v ?_
     refine RW.ld H 0 1 ?_
     refine RW.mkL H (x := .row ⟨[.string ⟨((gD S j).1).toArray⟩], 9, false⟩) (fm := fun b => .slice (some ⟨b, 0, none⟩) 1 1) (by kernel_rfl) (by kernel_rfl) (by kernel_rfl) (by kernel_rfl) ?_
     clear H; intro _ b40 _ H
     refine RW.appL H 2 0 (n := 1) (e2 := 9) (by kernel_rfl) (by kernel_rfl) rfl rfl rfl rfl rfl rfl rfl rfl (by kernel_rfl) (by kernel_rfl) (by kernel_rfl) (by decide) (by decide) rfl rfl (by omega) (by kernel_rfl) ?_
     clear H; intro _ v41 _ H
     dsimp only [setL, delL] at H
     refine RW.v ?_
     refine RW.nil ?_
     replace H := (H.del 0)
     dsimp only [setL, delL] at H
     refine bQn ?_
     refine W.rg [(15, v41), (50, u), (51, .int .i64 ((acc.length : Nat) : Int)), (52, .int .i64 ((j : Nat) : Int))] fun TA => ?_
     refine W.region ?_
     refine RW.valE (v' := .int .i64 (((j : Nat) : Int) + 1)) (by kernel_rfl) (by kernel_rfl) rfl (congrArg (Value.int .i64) (wrap_in (by omega) (by omega))) (by kernel_rfl) ?_
     refine RW.v ?_
     refine RW.nil ?_
     rw [acc_snoc (x := (gD S j).1)] at H
     rw [show o.length + 1 = (o ++ [(gD S j).1]).length by rw [List.length_append]; rfl] at H
     exact ⟨rfl, mm - 1, by omega, j + 1, (o ++ [(gD S j).1]), v41, (by omega), (by rw [List.length_append, List.length_singleton]; omega), (by rw [hO, dropD (d := default) (show j < S.length by omega), List.map_cons, List.append_assoc]; rfl), H, rfl, rfl, rfl, rfl⟩
    ·have hc33b := hc33
     have hc33 := of_decide_eq_false hc33
     refine W.exit _ ?_
     refine seqQ_exit ?_
     refine rndQ_exit ?_
     have hE : S.map (·.1) = o := by rw [hO, List.drop_eq_nil_of_le (by omega)]; exact List.append_nil _
     refine blkQ_here ?_
     refine W.seq (W.region ?_)
     iterate 2 refine RW.v ?_
     refine RW.nil ?_
     replace H := (H.del 1)
     dsimp only [setL, delL] at H
     refine W.ret ?_
     refine endMark H 1 rfl fun _ H => ?_
     dsimp only [setL, delL] at H
     refine endGD0 (by rfl) (by exact resL_tmp rfl) ?_
     have ea : flexC false l s = o := by unfold flexC; rw [if_pos hvs, ← hTd, hR, ← hS, hE]
     rw [ea]
     obtain ⟨F', le, hv, H⟩ := H.freezeK 0 rfl
     dsimp only [setL, delL] at H
     exact ⟨F', fun b y h => le b y (le0 b y h), hv, H⟩
end
end Go.Proofs.YtjcmdifpkafdkaaDoor
