/-
 Candidates that begin with an input; its completion. Conditions: the tables of unicode/utf8 lie.
-/
import Derived.Test.YtjcmdifpkafdkaaDoorC2
namespace Go.Proofs.YtjcmdifpkafdkaaDoor
open Go.Lib
set_option maxRecDepth 100000
open Go.RowKit
theorem GRow.one {G : Nat} {σ : Mem} {e : TypeId} {s n : Nat} {v : Value} {xs : List Value} (g : GRow G σ e s v n xs) : v.cells.toList = [v] := by cases g <;> rfl
theorem acc_snoc {acc : List (List UInt8)} {x : List UInt8} : acc.map strV ++ [.string ⟨x.toArray⟩] = (acc ++ [x]).map strV := by rw [List.map_append]; rfl
theorem dist_skip {l seen : List (List UInt8)} {i : Nat} (h : i < l.length) (k : l.getD i [] ∈ seen ∨ validD (l.getD i []) = false) : distG seen (l.drop i) = distG seen (l.drop (i + 1)) := by
 rw [dropD (d := []) h]
 exact if_pos k
theorem dist_take {l seen : List (List UInt8)} {i : Nat} (h : i < l.length) (k : l.getD i [] ∉ seen) (hv : validD (l.getD i []) = true) : distG seen (l.drop i) = l.getD i [] :: distG (seen ++ [l.getD i []]) (l.drop (i + 1)) := by
 rw [dropD (d := []) h]
 exact if_neg (fun h => h.elim k fun h => by rw [hv] at h; cases h)
theorem distG_len : ∀ (l seen : List (List UInt8)), (distG seen l).length ≤ l.length
 | [], _ => Nat.le_refl _
 | s :: l, seen => by
  unfold distG
  split
  ·exact Nat.le_succ_of_le (distG_len l seen)
  ·exact Nat.succ_le_succ (distG_len l _)
theorem allC_len {fold : Bool} {l : List (List UInt8)} {s : List UInt8} : (allC fold l s).length ≤ l.length := by
 unfold allC
 split
 ·exact Nat.le_trans (List.length_filter_le ..) (distG_len l [])
 ·exact Nat.zero_le _
theorem encA_take_len {cs : List Int} {s : List UInt8} (h : runes s = cs) (hv : validD s = true) (n : Nat) : (encA (cs.take n)).length ≤ s.length := by
 have e : encA cs = s := by rw [← h]; exact valid_eq hv
 have e2 : encA (cs.take n) ++ encA (cs.drop n) = s := by rw [← encA_append, List.take_append_drop]; exact e
 rw [← e2, List.length_append]
 omega
theorem comC_take {fold : Bool} {m : List (List UInt8)} (h : ∀ x ∈ m, validD x = true) : m = [] ∧ commonC fold m = [] ∨ ∃ s n, s ∈ m ∧ commonC fold m = encA ((runes s).take n) := by
 have hf : m.filter validD = m := List.filter_eq_self.2 h
 unfold commonC
 rw [hf]
 cases m with
 | nil => exact .inl ⟨rfl, rfl⟩
 | cons s m => exact .inr ⟨s, _, List.mem_cons_self .., rfl⟩
theorem tryC_len {fold : Bool} {l : List (List UInt8)} {s : List UInt8} (hsm : ∀ s ∈ l, s.length ≤ 1000000) : (tryC fold l s).length ≤ 1000000 := by
 unfold tryC
 rcases comC_take (fold := fold) (m := allC fold l s) (fun x hx => (allC_good.1 x hx).1) with ⟨_, h⟩ | ⟨x, n, hx, h⟩
 ·rw [h]; exact Nat.zero_le _
 ·rw [h]
  have := allC_good.1 x hx
  exact Nat.le_trans (encA_take_len rfl this.1 n) (hsm x this.2)
theorem enc_back {cs : List Int} (h : ∀ c ∈ cs, chB c = true) : validD (encA cs) = true ∧ runes (encA cs) = cs := by
 have := valid_encA_append cs [] h
 rw [List.append_nil] at this
 refine ⟨this.1.trans rfl, this.2.trans ?_⟩
 show cs ++ [] = cs
 rw [List.append_nil]
theorem tryC_chars {fold : Bool} {l : List (List UInt8)} {s : List UInt8} : ∀ c ∈ runes (tryC fold l s), chB c = true := by
 unfold tryC
 rcases comC_take (fold := fold) (m := allC fold l s) (fun x hx => (allC_good.1 x hx).1) with ⟨_, h⟩ | ⟨x, n, hx, h⟩
 ·rw [h]; intro c hc; simp [runes, runesF] at hc
 ·rw [h]
  have hc : ∀ c ∈ (runes x).take n, chB c = true := fun c hc => runes_chars (allC_good.1 x hx).1 c (List.mem_of_mem_take hc)
  rw [(enc_back hc).2]
  exact hc
theorem cutG_go {C : List Int} {n i : Nat} (h : i < C.length) (k : delC (C.getD i 0) = false) : cutG C n i = cutG C (n - 1) (i + 1) := by
 cases n with
 | zero => rfl
 | succ n =>
  show (if _ then (if _ then _ else _) else _) = _
  rw [if_pos h, if_neg (by rw [k]; exact Bool.false_ne_true)]
  rfl
theorem cutG_stop {C : List Int} {n i : Nat} (h : i < C.length) (k : delC (C.getD i 0) = true) (hn : 0 < n) : cutG C n i = some (i + 1) := by
 cases n with
 | zero => exact absurd hn (Nat.lt_irrefl _)
 | succ n =>
  show (if _ then (if _ then _ else _) else _) = _
  rw [if_pos h, if_pos k]
theorem cutG_end {C : List Int} {n i : Nat} (h : ¬ i < C.length) : cutG C n i = none := by
 cases n with
 | zero => rfl
 | succ n => exact if_neg h
section
variable {G : Nat} {A : Abs} {σ : Mem} {F : Nat → Option Blk2} {L : List Ent} {fold : Bool} {l : List (List UInt8)} {s : List UInt8} {v1 : Value}
set_option maxHeartbeats 16000000 in
theorem All_wc (hU : U8F F) (h16 : 16 ≤ G) (h1 : SlF F 1 v1 l.length (l.map strV)) (hl : l.length ≤ 1000000) (hsm : ∀ s ∈ l, s.length ≤ 1000000) (hs : s.length ≤ 1000000) (H : Lies G A F σ L) : WC G Tryd.prog 24 #[v1, .string ⟨s.toArray⟩, .bool fold] σ fun v σ' => ∃ F', Le F F' ∧ SlF F' 1 v (allC fold l s).length ((allC fold l s).map strV) ∧ Lies G A F' σ' L := by
 cases fold with
 | true =>
  obtain ⟨F0, hF⟩ : ∃ F0, F0 = F := ⟨_, rfl⟩
  have le0 : Le F0 F := fun b y h => hF ▸ h
  rw [← hF] at h1 hU ⊢
  refine WC.enter (fn := Tryd.f24) Tryd.func24 rfl ?_
  refine W.rg [(0, v1), (1, .string ⟨s.toArray⟩), (2, .bool true)] fun TA => ?_
  refine W.seq (W.region ?_)
  refine RW.v ?_
  refine RW.nil ?_
  refine W.rg [(0, v1), (1, .string ⟨s.toArray⟩), (2, .bool true)] fun TA => ?_
  refine W.seq ?_
  refine W.seq (W.region ?_)
  refine RW.v ?_
  refine RW.cl ?_
  refine ⟨_, _, (s_valid (hU.le (fun b y h => H.old _ _ (le0 b y h))) h16 hs), ?_⟩
  refine RW.v ?_
  refine RW.nil ?_
  refine W.rg [(0, v1), (1, .string ⟨s.toArray⟩), (2, .bool true), (11, .bool (!(validD s)))] fun TA => ?_
  refine W.cond rfl (fun hc1 => ?_) (fun hc1 => ?_)
  ·have hc1b := hc1
   have hvs : validD s = false := by simpa using hc1b
   refine W.seq (W.region ?_)
   refine RW.v ?_
   refine RW.nil ?_
   refine W.ret ?_
   refine seqQ_ret ?_
   refine endG (by rfl) (by exact resL_tmp rfl) ?_
   have ea : allC true l s = [] := by unfold allC; rw [if_neg (by rw [hvs]; exact Bool.false_ne_true)]
   rw [ea]
   exact ⟨F, le0, .nil _ rfl, H⟩
  ·have hc1b := hc1
   have hvs : validD s = true := by simpa using hc1b
   refine W.skip ?_
   refine W.seq (W.region ?_)
   refine RW.v ?_
   refine RW.cl ?_
   refine ((by_wc (fold := true) H).mono ?_)
   clear H
   rintro _ _ ⟨rfl, H⟩
   refine RW.v ?_
   refine RW.convR H hs (by kernel_rfl) (by kernel_rfl) rfl rfl rfl rfl rfl (by kernel_rfl) ?_
   clear H; intro _ cv2 H
   obtain ⟨F, le, hk3, H⟩ := H.freezeK 0 rfl
   dsimp only [setL, delL] at H
   replace le0 := fun b y h => le b y (le0 b y h)
   refine RW.mk H (.row ⟨[.nilFunc], 47, false⟩) ?_
   clear H; intro _ b4 _ H
   refine RW.mk H (.row ⟨[.slice none 0 0], 50, false⟩) ?_
   clear H; intro _ b5 _ H
   refine RW.st H 1 [.func (.func 84) #[] #[]] [.func (.func 84) #[] #[]] ?_
   clear H; intro _ _ H; dsimp only [setL, delL] at H
   refine RW.stL H 0 (vs := [cv2]) (cs' := [cv2]) (by kernel_rfl) (by kernel_rfl) rfl rfl rfl (slf_one hk3.slf) (slf_all hk3.slf) (by kernel_rfl) (Nat.le_of_ble_eq_true rfl) rfl (by kernel_rfl) ?_
   clear H; intro _ _ H; dsimp only [setL, delL] at H
   refine RW.nil ?_
   refine W.rg [(0, v1), (7, .pointer (some ⟨b4, 0, none⟩)), (8, .pointer (some ⟨b5, 0, none⟩))] fun TA => ?_
   refine W.seq (W.region ?_)
   refine RW.v ?_
   refine RW.cl ?_
   refine WC.enter (fn := Tryd.f58) Tryd.func58 rfl ?_
   refine W.rg [(0, v1)] fun TA => ?_
   refine W.seq (W.region ?_)
   refine RW.mk H (.row ⟨(v1).cells.toList, 22, false⟩) ?_
   clear H; intro _ b6 _ H
   rw [(slf_one (h1.le le0))] at H
   refine RW.v ?_
   refine RW.nil ?_
   refine W.rg [(1, .pointer (some ⟨b6, 0, none⟩))] fun TA => ?_
   refine W.seq (W.region ?_)
   refine RW.val (v := .func (.func 95) #[] #[.pointer (some ⟨b6, 0, none⟩)]) (by kernel_rfl) (by kernel_rfl) (by kernel_rfl) (by kernel_rfl) ?_
   refine RW.v ?_
   refine RW.nil ?_
   refine W.ret ?_
   refine endG (by rfl) (by exact resL_tmp rfl) ?_
   refine RW.val (v := .func (.func 62) #[] #[.pointer (some ⟨b4, 0, none⟩), .pointer (some ⟨b5, 0, none⟩)]) (by kernel_rfl) (by kernel_rfl) (by kernel_rfl) (by kernel_rfl) ?_
   obtain ⟨F, le, hb7, H⟩ := H.freeze 2 rfl
   dsimp only [setL, delL] at H
   replace le0 := fun b y h => le b y (le0 b y h)
   replace hk3 := hk3.le le
   obtain ⟨F, le, hb8, H⟩ := H.freeze 1 rfl
   dsimp only [setL, delL] at H
   replace le0 := fun b y h => le b y (le0 b y h)
   replace hk3 := hk3.le le
   replace hb7 := le _ _ hb7
   obtain ⟨T, hTd⟩ : ∃ T, T = allC true l s := ⟨_, rfl⟩
   have hT0 : T = [] ++ (distG [] (l.drop 0)).filter (fun c => begC true (runes c) (runes s)) := by rw [hTd]; unfold allC; rw [if_pos hvs]; rfl
   refine RW.cl ?_
   refine WC.enter (fn := Tryd.f57) Tryd.func57 rfl ?_
   refine W.rg [(0, .func (.func 95) #[] #[.pointer (some ⟨b6, 0, none⟩)]), (1, .func (.func 62) #[] #[.pointer (some ⟨b4, 0, none⟩), .pointer (some ⟨b5, 0, none⟩)])] fun TA => ?_
   refine W.seq (W.region ?_)
   refine RW.mk H (.row ⟨[.func (.func 95) #[] #[pt b6]], 71, false⟩) ?_
   clear H; intro _ b7 _ H
   refine RW.mk H (.row ⟨[.func (.func 62) #[] #[pt b4, pt b5]], 41, false⟩) ?_
   clear H; intro _ b8 _ H
   refine RW.v ?_
   refine RW.nil ?_
   refine W.rg [(2, .pointer (some ⟨b7, 0, none⟩)), (3, .pointer (some ⟨b8, 0, none⟩))] fun TA => ?_
   refine W.seq (W.region ?_)
   refine RW.val (v := .func (.func 94) #[] #[.pointer (some ⟨b7, 0, none⟩), .pointer (some ⟨b8, 0, none⟩)]) (by kernel_rfl) (by kernel_rfl) (by kernel_rfl) (by kernel_rfl) ?_
   refine RW.v ?_
   refine RW.nil ?_
   refine W.ret ?_
   refine endG (by rfl) (by exact resL_tmp rfl) ?_
   refine RW.cl ?_
   refine WC.enter (fn := Tryd.f56) Tryd.func56 rfl ?_
   refine W.rg [(0, .func (.func 94) #[] #[.pointer (some ⟨b7, 0, none⟩), .pointer (some ⟨b8, 0, none⟩)])] fun TA => ?_
   refine W.seq (W.region ?_)
   refine RW.v ?_
   refine RW.nil ?_
   refine W.rg [(0, .func (.func 94) #[] #[.pointer (some ⟨b7, 0, none⟩), .pointer (some ⟨b8, 0, none⟩)])] fun TA => ?_
   refine W.seq (W.region ?_)
   refine RW.v ?_
   refine RW.cl ?_
   refine WC.enterD (fn := Tryd.f93) Tryd.func93 rfl ?_
   refine W.rg [(0, .slice none 0 0), (1, .func (.func 94) #[] #[.pointer (some ⟨b7, 0, none⟩), .pointer (some ⟨b8, 0, none⟩)])] fun TA => ?_
   refine W.seq (W.region ?_)
   refine RW.mk H (.row ⟨[.slice none 0 0], 22, false⟩) ?_
   clear H; intro _ b9 _ H
   refine RW.v ?_
   refine RW.nil ?_
   refine W.rg [(1, .func (.func 94) #[] #[.pointer (some ⟨b7, 0, none⟩), .pointer (some ⟨b8, 0, none⟩)]), (2, .pointer (some ⟨b9, 0, none⟩))] fun TA => ?_
   refine W.seq ?_
   refine W.seq (W.region ?_)
   refine RW.v ?_
   refine RW.nil ?_
   refine W.rg [(2, .pointer (some ⟨b9, 0, none⟩)), (6, .func (.func 94) #[] #[.pointer (some ⟨b7, 0, none⟩), .pointer (some ⟨b8, 0, none⟩)])] fun TA => ?_
   refine W.block ?_
   refine W.rst [(2, .pointer (some ⟨b9, 0, none⟩)), (6, .func (.func 94) #[] #[.pointer (some ⟨b7, 0, none⟩), .pointer (some ⟨b8, 0, none⟩)])] ⟨rfl, rfl, trivial⟩ fun TL14 => ?_
   refine W.rangeL H rfl (fun _ h => nomatch h) (fun _ h => nomatch h) (by kernel_rfl) fun _ d10 b11 lp12 hl13 H => ?_
   refine WC.enterD (fn := Tryd.f94) Tryd.func94 rfl ?_
   refine W.rg [(0, .func (.yield b11) #[] #[]), (1, .pointer (some ⟨b7, 0, none⟩)), (2, .pointer (some ⟨b8, 0, none⟩))] fun TA => ?_
   refine W.seq (W.region ?_)
   refine RW.mk H (.row ⟨[.func (.yield b11) #[] #[]], 41, false⟩) ?_
   clear H; intro _ b15 _ H
   refine RW.nil ?_
   refine W.rg [(1, .pointer (some ⟨b7, 0, none⟩)), (2, .pointer (some ⟨b8, 0, none⟩)), (3, .pointer (some ⟨b15, 0, none⟩))] fun TA => ?_
   refine W.seq (W.region ?_)
   refine RW.ld H 5 1 ?_
   refine RW.nil ?_
   refine W.rg [(2, .pointer (some ⟨b8, 0, none⟩)), (3, .pointer (some ⟨b15, 0, none⟩)), (5, .func (.func 95) #[] #[.pointer (some ⟨b6, 0, none⟩)])] fun TA => ?_
   refine W.block ?_
   refine W.rst [(2, .pointer (some ⟨b8, 0, none⟩)), (3, .pointer (some ⟨b15, 0, none⟩)), (5, .func (.func 95) #[] #[.pointer (some ⟨b6, 0, none⟩)])] ⟨rfl, rfl, rfl, trivial⟩ fun TL20 => ?_
   refine W.rangeL H rfl (fun _ h => nomatch h) (fun _ h => nomatch h) (by kernel_rfl) fun _ d16 b17 lp18 hl19 H => ?_
   refine WC.enter (fn := Tryd.f95) Tryd.func95 rfl ?_
   refine W.rg [(0, .func (.yield b17) #[] #[]), (1, .pointer (some ⟨b6, 0, none⟩))] fun TA => ?_
   refine W.seq (W.region ?_)
   refine RW.mkM H ?_
   clear H; intro _ b21 _ H
   refine RW.v ?_
   refine RW.nil ?_
   refine W.rg [(0, .func (.yield b17) #[] #[]), (1, .pointer (some ⟨b6, 0, none⟩)), (3, .map (some b21))] fun TA => ?_
   refine W.seq (W.region ?_)
   refine RW.ld H 9 1 ?_
   refine RW.len (by kernel_rfl) (by kernel_rfl) rfl rfl rfl rfl ((h1.le le0).len (e := 9) (by kernel_rfl)) (by kernel_rfl) ?_
   refine RW.v ?_
   refine RW.nil ?_
   refine W.rg [(0, .func (.yield b17) #[] #[]), (3, .map (some b21)), (7, v1), (8, .int .i64 (l.length : Int)), (9, .int .i64 0)] fun TA => ?_
   refine W.block ?_
   replace H := H.nilSl 9 1
   refine W.loop (fun mm ta σ => ∃ (i : Nat) (seen : List (List UInt8)) (acc : List (List UInt8)) (u : Value), (mm + i = l.length) ∧ (acc.length ≤ i) ∧ (T = acc ++ (distG seen (l.drop i)).filter (fun c => begC true (runes c) (runes s))) ∧ Lies G A F σ (.sl 9 1 u acc.length (acc.map strV) :: .at_ b21 (.ents (seenE seen) seen.length) :: .at_ b17 lp18 :: .at_ d16 (.defs true) :: .at_ b15 (.row ⟨[.func (.yield b11) #[] #[]], 41, false⟩) :: .at_ b11 lp12 :: .at_ d10 (.defs true) :: .at_ b9 (.row ⟨[u], 22, false⟩) :: .at_ b8 (.row ⟨[.func (.func 62) #[] #[.pointer (some ⟨b4, 0, none⟩), .pointer (some ⟨b5, 0, none⟩)]], 41, false⟩) :: .at_ b7 (.row ⟨[.func (.func 95) #[] #[.pointer (some ⟨b6, 0, none⟩)]], 71, false⟩) :: .at_ b6 (.row ⟨[v1], 22, false⟩) :: (L)) ∧ ta 0 = .func (.yield b17) #[] #[] ∧ ta 3 = .map (some b21) ∧ ta 7 = v1 ∧ ta 8 = .int .i64 (l.length : Int) ∧ ta 9 = .int .i64 ((i : Nat) : Int)) l.length ?_ ?_
   ·exact ⟨0, [], [], .slice none 0 0, (by omega), (Nat.zero_le _), hT0, H, rfl, rfl, rfl, rfl, rfl⟩
   clear H
   rintro mm ta _ ⟨i, seen, acc, u, hm, hac, hT, H, e0, e3, e7, e8, e9⟩
   refine W.rst [(0, .func (.yield b17) #[] #[]), (3, .map (some b21)), (7, v1), (8, .int .i64 (l.length : Int)), (9, .int .i64 ((i : Nat) : Int))] ⟨e0, e3, e7, e8, e9, trivial⟩ fun TA => ?_
   clear e0 e3 e7 e8 e9
   refine W.seq (W.region ?_)
   refine RW.v ?_
   refine RW.nil ?_
   refine W.rg [(0, .func (.yield b17) #[] #[]), (3, .map (some b21)), (7, v1), (8, .int .i64 (l.length : Int)), (9, .int .i64 ((i : Nat) : Int)), (10, .bool (decide (((i : Nat) : Int) < (l.length : Int))))] fun TA => ?_
   refine W.seq ?_
   refine W.cond rfl (fun hc22 => ?_) (fun hc22 => ?_)
   ·have hc22b := hc22
    have hc22 := of_decide_eq_true hc22
    have hil : i < l.length := by omega
    refine W.skip ?_
    refine W.seq ?_
    refine W.block ?_
    refine W.seq (W.region ?_)
    refine RW.idxF (h1.le le0) (by kernel_rfl) (by kernel_rfl) rfl Tryd.underlying22 (by kernel_rfl) rfl rfl ⟨by omega, by omega⟩ (by kernel_rfl) ?_
    intro b23 q24 r25 hF26 hE27
    rw [strs_at (l := l) (j := i) (i := ((i : Nat) : Int)) (by omega) (by omega)] at hE27
    refine RW.loads 1 (by kernel_rfl) (by kernel_rfl) rfl rfl (H.old _ _ hF26) hE27 rfl (by kernel_rfl) ?_
    refine RW.v ?_
    refine RW.nil ?_
    refine W.rg [(0, .func (.yield b17) #[] #[]), (3, .map (some b21)), (5, .string ⟨(l.getD i []).toArray⟩), (7, v1), (8, .int .i64 (l.length : Int)), (9, .int .i64 ((i : Nat) : Int))] fun TA => ?_
    refine W.seq ?_
    refine W.seq (W.region ?_)
    iterate 2 refine RW.v ?_
    refine RW.lkL H 1 (.bool (decide ((l.getD i []) ∈ seen))) ?_ (hv := look_seen rfl rfl (by kernel_rfl))
    refine RW.v ?_
    refine RW.both _ _ rfl rfl rfl (fun hc28 => ?_) (fun hc28 => ?_)
    ·have hc28b := hc28
     have hc28 := of_decide_eq_true hc28
     have hskip : (l.getD i []) ∈ seen ∨ validD (l.getD i []) = false := .inl hc28
     refine RW.skip (by rfl) (by kernel_rfl) ?_
     refine RW.skip (by rfl) (by kernel_rfl) ?_
     refine RW.skip (by rfl) (by kernel_rfl) ?_
     refine RW.v ?_
     refine RW.nil ?_
     refine W.c1 ?_
     refine W.exit _ ?_
     refine seqQ_exit ?_
     refine blkQ_here ?_
     refine W.region ?_
     refine RW.valE (v' := .int .i64 (((i : Nat) : Int) + 1)) (by kernel_rfl) (by kernel_rfl) rfl (congrArg (Value.int .i64) (wrap_in (by omega) (by omega))) (by kernel_rfl) ?_
     refine RW.v ?_
     refine RW.nil ?_
     exact ⟨rfl, mm - 1, by omega, i + 1, seen, acc, u, (by omega), (by omega), (by rw [hT, dist_skip hil hskip]), H, rfl, rfl, rfl, rfl, rfl⟩
    ·have hc28b := hc28
     have hc28 := of_decide_eq_false hc28
     have hnew := hc28
     refine RW.val (by rfl) (by kernel_rfl) rfl (by kernel_rfl) ?_
     refine RW.cl (hw := by rfl) ?_
     refine ⟨_, _, (s_valid (hU.le (fun b y h => H.old _ _ (le0 b y h))) h16 (hsm _ (mem_of (by omega)))), ?_⟩
     refine RW.val (by rfl) (by kernel_rfl) rfl (by kernel_rfl) ?_
     refine RW.v ?_
     refine RW.nil ?_
     refine W.rg [(0, .func (.yield b17) #[] #[]), (3, .map (some b21)), (5, .string ⟨(l.getD i []).toArray⟩), (7, v1), (8, .int .i64 (l.length : Int)), (9, .int .i64 ((i : Nat) : Int)), (20, .bool (!(validD (l.getD i []))))] fun TA => ?_
     refine W.cond rfl (fun hc29 => ?_) (fun hc29 => ?_)
     ·have hc29b := hc29
      have hval : validD (l.getD i []) = false := by simpa using hc29b
      have hskip : (l.getD i []) ∈ seen ∨ validD (l.getD i []) = false := .inr hval
      refine W.exit _ ?_
      refine seqQ_exit ?_
      refine blkQ_here ?_
      refine W.region ?_
      refine RW.valE (v' := .int .i64 (((i : Nat) : Int) + 1)) (by kernel_rfl) (by kernel_rfl) rfl (congrArg (Value.int .i64) (wrap_in (by omega) (by omega))) (by kernel_rfl) ?_
      refine RW.v ?_
      refine RW.nil ?_
      exact ⟨rfl, mm - 1, by omega, i + 1, seen, acc, u, (by omega), (by omega), (by rw [hT, dist_skip hil hskip]), H, rfl, rfl, rfl, rfl, rfl⟩
     ·have hc29b := hc29
      have hval : validD (l.getD i []) = true := by simpa using hc29b
      refine W.skip ?_
      refine W.seq (W.region ?_)
      iterate 2 refine RW.v ?_
      refine RW.upL H 1 (seenE (seen ++ [(l.getD i [])])) (seen.length + 1) ?_ (hv := upd_seen rfl rfl hnew)
      clear H; intro _ _ H; dsimp only [setL, delL] at H
      refine RW.nil ?_
      refine W.rg [(0, .func (.yield b17) #[] #[]), (3, .map (some b21)), (5, .string ⟨(l.getD i []).toArray⟩), (7, v1), (8, .int .i64 (l.length : Int)), (9, .int .i64 ((i : Nat) : Int))] fun TA => ?_
      refine W.seq (W.region ?_)
      iterate 2 refine RW.v ?_
      refine RW.yieldL H 2 rfl hl19 (by kernel_rfl) (by kernel_rfl) rfl rfl rfl rfl rfl (by kernel_rfl) ?_
      refine W.rg [(2, .pointer (some ⟨b8, 0, none⟩)), (3, .pointer (some ⟨b15, 0, none⟩)), (5, .func (.func 95) #[] #[.pointer (some ⟨b6, 0, none⟩)]), (6, .string ⟨(l.getD i []).toArray⟩)] fun TA => ?_
      refine W.region ?_
      refine RW.v ?_
      refine RW.nil ?_
      refine ⟨rfl, _, _, _, 2, H, rfl, ?_⟩
      clear H; intro _ lq30 hq31 H
      dsimp only [setL, delL] at H
      refine W.rg [(2, .pointer (some ⟨b8, 0, none⟩)), (3, .pointer (some ⟨b15, 0, none⟩)), (4, .string ⟨(l.getD i []).toArray⟩), (5, .func (.func 95) #[] #[.pointer (some ⟨b6, 0, none⟩)]), (6, .string ⟨(l.getD i []).toArray⟩)] fun TA => ?_
      refine W.block ?_
      refine W.seq (W.region ?_)
      refine RW.ld H 8 1 ?_
      refine RW.v ?_
      refine RW.cl ?_
      refine ((cl_all (fold := true) (s := (l.getD i [])) hb7 hb8 hk3.slf (runes_in s) (hsm _ (mem_of (by omega))) H).mono ?_)
      clear H
      rintro _ _ ⟨rfl, H⟩
      refine RW.v ?_
      refine RW.both _ _ rfl rfl rfl (fun hc32 => ?_) (fun hc32 => ?_)
      ·have hc32b := hc32
       refine RW.ldL H 4 1 (by rfl) (by kernel_rfl) rfl rfl rfl rfl rfl (by kernel_rfl) ?_
       refine RW.val (by rfl) (by kernel_rfl) rfl (by kernel_rfl) ?_
       refine RW.yieldL H 5 rfl hl13 (by rfl) (by kernel_rfl) rfl rfl rfl rfl rfl (by kernel_rfl) ?_
       refine W.rg [(2, .pointer (some ⟨b9, 0, none⟩)), (6, .func (.func 94) #[] #[.pointer (some ⟨b7, 0, none⟩), .pointer (some ⟨b8, 0, none⟩)]), (7, .string ⟨(l.getD i []).toArray⟩)] fun TA => ?_
       refine W.region ?_
       refine RW.v ?_
       refine RW.nil ?_
       refine ⟨rfl, _, _, _, 5, H, rfl, ?_⟩
       clear H; intro _ lq33 hq34 H
       dsimp only [setL, delL] at H
       refine W.rg [(2, .pointer (some ⟨b9, 0, none⟩)), (5, .string ⟨(l.getD i []).toArray⟩), (6, .func (.func 94) #[] #[.pointer (some ⟨b7, 0, none⟩), .pointer (some ⟨b8, 0, none⟩)]), (7, .string ⟨(l.getD i []).toArray⟩)] fun TA => ?_
       refine W.block ?_
       refine W.region ?_
       refine RW.ld H 7 1 ?_
       refine RW.v ?_
       refine RW.mkL H (x := .row ⟨[.string ⟨(l.getD i []).toArray⟩], 9, false⟩) (fm := fun b => .slice (some ⟨b, 0, none⟩) 1 1) (by kernel_rfl) (by kernel_rfl) (by kernel_rfl) (by kernel_rfl) ?_
       clear H; intro _ b35 _ H
       refine RW.appL H 1 0 (n := 1) (e2 := 9) (by kernel_rfl) (by kernel_rfl) rfl rfl rfl rfl rfl rfl rfl rfl (by kernel_rfl) (by kernel_rfl) (by kernel_rfl) (by decide) (by decide) rfl rfl (by omega) (by kernel_rfl) ?_
       clear H; intro _ v36 _ H
       dsimp only [setL, delL] at H
       refine RW.stL H 7 (vs := [v36]) (cs' := [v36]) (by kernel_rfl) (by kernel_rfl) rfl rfl rfl (H.sl 0 rfl).one (gr_all (H.sl 0 rfl)) (by kernel_rfl) (Nat.le_of_ble_eq_true rfl) rfl (by kernel_rfl) ?_
       clear H; intro _ _ H; dsimp only [setL, delL] at H
       refine RW.nil ?_
       refine blkQ_normal ?_
       refine ⟨_, _, _, 5, true, .ready, none, H, rfl, rfl, ?_⟩
       clear H; intro _ lr37 _ hr38 H
       dsimp only [setL, delL] at H
       refine RW.val (by rfl) (by kernel_rfl) rfl (by kernel_rfl) ?_
       refine RW.v ?_
       refine RW.nil ?_
       refine W.c0 ?_
       refine W.skip ?_
       refine blkQ_normal ?_
       refine ⟨_, _, _, 2, true, .ready, none, H, rfl, rfl, ?_⟩
       clear H; intro _ lr39 _ hr40 H
       dsimp only [setL, delL] at H
       refine RW.v ?_
       refine RW.nil ?_
       refine W.c0 ?_
       refine W.skip ?_
       refine blkQ_normal ?_
       refine W.region ?_
       refine RW.valE (v' := .int .i64 (((i : Nat) : Int) + 1)) (by kernel_rfl) (by kernel_rfl) rfl (congrArg (Value.int .i64) (wrap_in (by omega) (by omega))) (by kernel_rfl) ?_
       refine RW.v ?_
       refine RW.nil ?_
       rw [show lr39 = lp18 from hr40.trans hl19.symm] at H
       rw [show lr37 = lp12 from hr38.trans hl13.symm] at H
       rw [show seen.length + 1 = (seen ++ [(l.getD i [])]).length by rw [List.length_append]; rfl] at H
       rw [acc_snoc (x := (l.getD i []))] at H
       rw [show acc.length + 1 = (acc ++ [(l.getD i [])]).length by rw [List.length_append]; rfl] at H
       exact ⟨rfl, mm - 1, by omega, i + 1, (seen ++ [(l.getD i [])]), (acc ++ [(l.getD i [])]), v36, (by omega), (by rw [List.length_append, List.length_singleton]; omega), (by rw [hT, dist_take hil hnew hval, List.filter_cons_of_pos (p := (fun c => begC true (runes c) (runes s))) hc32b, List.append_assoc]; rfl), H, rfl, rfl, rfl, rfl, rfl⟩
      ·have hc32b := hc32
       refine RW.skip (by rfl) (by kernel_rfl) ?_
       refine RW.skip (by rfl) (by kernel_rfl) ?_
       refine RW.skip (by rfl) (by kernel_rfl) ?_
       refine RW.skip (by rfl) (by kernel_rfl) ?_
       refine RW.v ?_
       refine RW.nil ?_
       refine W.c0 ?_
       refine W.skip ?_
       refine blkQ_normal ?_
       refine ⟨_, _, _, 2, true, .ready, none, H, rfl, rfl, ?_⟩
       clear H; intro _ lr41 _ hr42 H
       dsimp only [setL, delL] at H
       refine RW.v ?_
       refine RW.nil ?_
       refine W.c0 ?_
       refine W.skip ?_
       refine blkQ_normal ?_
       refine W.region ?_
       refine RW.valE (v' := .int .i64 (((i : Nat) : Int) + 1)) (by kernel_rfl) (by kernel_rfl) rfl (congrArg (Value.int .i64) (wrap_in (by omega) (by omega))) (by kernel_rfl) ?_
       refine RW.v ?_
       refine RW.nil ?_
       rw [show lr41 = lp18 from hr42.trans hl19.symm] at H
       rw [show seen.length + 1 = (seen ++ [(l.getD i [])]).length by rw [List.length_append]; rfl] at H
       exact ⟨rfl, mm - 1, by omega, i + 1, (seen ++ [(l.getD i [])]), acc, u, (by omega), (by omega), (by rw [hT, dist_take hil hnew hval, List.filter_cons_of_neg (p := (fun c => begC true (runes c) (runes s))) (by rw [hc32b]; exact Bool.false_ne_true)]), H, rfl, rfl, rfl, rfl, rfl⟩
   ·have hc22b := hc22
    have hc22 := of_decide_eq_false hc22
    refine W.exit _ ?_
    refine seqQ_exit ?_
    refine rndQ_exit ?_
    have hR : T = acc := by rw [hT, List.drop_eq_nil_of_le (by omega)]; exact List.append_nil _
    refine blkQ_here ?_
    refine endG (by rfl) (by exact rfl) ?_
    refine ⟨_, _, _, 2, _, _, _, _, H, rfl, hl19, rfl, rfl, ?_⟩
    clear H; intro _ H
    dsimp only [setL, delL] at H
    refine blkQ_normal ?_
    refine endMark H 2 rfl fun _ H => ?_
    dsimp only [setL, delL] at H
    refine endGD0 (by rfl) (by exact rfl) ?_
    refine ⟨_, _, _, 3, _, _, _, _, H, rfl, hl13, rfl, rfl, ?_⟩
    clear H; intro _ H
    dsimp only [setL, delL] at H
    refine blkQ_normal ?_
    refine W.seq (W.region ?_)
    refine RW.ld H 4 1 ?_
    refine RW.v ?_
    refine RW.nil ?_
    replace H := (((H.del 4).del 2).del 1)
    dsimp only [setL, delL] at H
    refine W.ret ?_
    refine endMark H 1 rfl fun _ H => ?_
    dsimp only [setL, delL] at H
    refine endGD0 (by rfl) (by exact resL_tmp rfl) ?_
    refine RW.v ?_
    refine RW.nil ?_
    refine W.ret ?_
    refine endG (by rfl) (by exact resL_tmp rfl) ?_
    refine RW.v ?_
    refine RW.nil ?_
    replace H := (((H.del 3).del 2).del 1)
    dsimp only [setL, delL] at H
    refine W.ret ?_
    refine endG (by rfl) (by exact resL_tmp rfl) ?_
    rw [← hTd, hR]
    obtain ⟨F', le, hv, H⟩ := H.freezeSl 0 rfl
    dsimp only [setL, delL] at H
    exact ⟨F', fun b y h => le b y (le0 b y h), hv, H⟩
 | false =>
  obtain ⟨F0, hF⟩ : ∃ F0, F0 = F := ⟨_, rfl⟩
  have le0 : Le F0 F := fun b y h => hF ▸ h
  rw [← hF] at h1 hU ⊢
  refine WC.enter (fn := Tryd.f24) Tryd.func24 rfl ?_
  refine W.rg [(0, v1), (1, .string ⟨s.toArray⟩), (2, .bool false)] fun TA => ?_
  refine W.seq (W.region ?_)
  refine RW.v ?_
  refine RW.nil ?_
  refine W.rg [(0, v1), (1, .string ⟨s.toArray⟩), (2, .bool false)] fun TA => ?_
  refine W.seq ?_
  refine W.seq (W.region ?_)
  refine RW.v ?_
  refine RW.cl ?_
  refine ⟨_, _, (s_valid (hU.le (fun b y h => H.old _ _ (le0 b y h))) h16 hs), ?_⟩
  refine RW.v ?_
  refine RW.nil ?_
  refine W.rg [(0, v1), (1, .string ⟨s.toArray⟩), (2, .bool false), (11, .bool (!(validD s)))] fun TA => ?_
  refine W.cond rfl (fun hc1 => ?_) (fun hc1 => ?_)
  ·have hc1b := hc1
   have hvs : validD s = false := by simpa using hc1b
   refine W.seq (W.region ?_)
   refine RW.v ?_
   refine RW.nil ?_
   refine W.ret ?_
   refine seqQ_ret ?_
   refine endG (by rfl) (by exact resL_tmp rfl) ?_
   have ea : allC false l s = [] := by unfold allC; rw [if_neg (by rw [hvs]; exact Bool.false_ne_true)]
   rw [ea]
   exact ⟨F, le0, .nil _ rfl, H⟩
  ·have hc1b := hc1
   have hvs : validD s = true := by simpa using hc1b
   refine W.skip ?_
   refine W.seq (W.region ?_)
   refine RW.v ?_
   refine RW.cl ?_
   refine ((by_wc (fold := false) H).mono ?_)
   clear H
   rintro _ _ ⟨rfl, H⟩
   refine RW.v ?_
   refine RW.convR H hs (by kernel_rfl) (by kernel_rfl) rfl rfl rfl rfl rfl (by kernel_rfl) ?_
   clear H; intro _ cv2 H
   obtain ⟨F, le, hk3, H⟩ := H.freezeK 0 rfl
   dsimp only [setL, delL] at H
   replace le0 := fun b y h => le b y (le0 b y h)
   refine RW.mk H (.row ⟨[.nilFunc], 47, false⟩) ?_
   clear H; intro _ b4 _ H
   refine RW.mk H (.row ⟨[.slice none 0 0], 50, false⟩) ?_
   clear H; intro _ b5 _ H
   refine RW.st H 1 [.func (.func 86) #[] #[]] [.func (.func 86) #[] #[]] ?_
   clear H; intro _ _ H; dsimp only [setL, delL] at H
   refine RW.stL H 0 (vs := [cv2]) (cs' := [cv2]) (by kernel_rfl) (by kernel_rfl) rfl rfl rfl (slf_one hk3.slf) (slf_all hk3.slf) (by kernel_rfl) (Nat.le_of_ble_eq_true rfl) rfl (by kernel_rfl) ?_
   clear H; intro _ _ H; dsimp only [setL, delL] at H
   refine RW.nil ?_
   refine W.rg [(0, v1), (7, .pointer (some ⟨b4, 0, none⟩)), (8, .pointer (some ⟨b5, 0, none⟩))] fun TA => ?_
   refine W.seq (W.region ?_)
   refine RW.v ?_
   refine RW.cl ?_
   refine WC.enter (fn := Tryd.f58) Tryd.func58 rfl ?_
   refine W.rg [(0, v1)] fun TA => ?_
   refine W.seq (W.region ?_)
   refine RW.mk H (.row ⟨(v1).cells.toList, 22, false⟩) ?_
   clear H; intro _ b6 _ H
   rw [(slf_one (h1.le le0))] at H
   refine RW.v ?_
   refine RW.nil ?_
   refine W.rg [(1, .pointer (some ⟨b6, 0, none⟩))] fun TA => ?_
   refine W.seq (W.region ?_)
   refine RW.val (v := .func (.func 95) #[] #[.pointer (some ⟨b6, 0, none⟩)]) (by kernel_rfl) (by kernel_rfl) (by kernel_rfl) (by kernel_rfl) ?_
   refine RW.v ?_
   refine RW.nil ?_
   refine W.ret ?_
   refine endG (by rfl) (by exact resL_tmp rfl) ?_
   refine RW.val (v := .func (.func 62) #[] #[.pointer (some ⟨b4, 0, none⟩), .pointer (some ⟨b5, 0, none⟩)]) (by kernel_rfl) (by kernel_rfl) (by kernel_rfl) (by kernel_rfl) ?_
   obtain ⟨F, le, hb7, H⟩ := H.freeze 2 rfl
   dsimp only [setL, delL] at H
   replace le0 := fun b y h => le b y (le0 b y h)
   replace hk3 := hk3.le le
   obtain ⟨F, le, hb8, H⟩ := H.freeze 1 rfl
   dsimp only [setL, delL] at H
   replace le0 := fun b y h => le b y (le0 b y h)
   replace hk3 := hk3.le le
   replace hb7 := le _ _ hb7
   obtain ⟨T, hTd⟩ : ∃ T, T = allC false l s := ⟨_, rfl⟩
   have hT0 : T = [] ++ (distG [] (l.drop 0)).filter (fun c => begC false (runes c) (runes s)) := by rw [hTd]; unfold allC; rw [if_pos hvs]; rfl
   refine RW.cl ?_
   refine WC.enter (fn := Tryd.f57) Tryd.func57 rfl ?_
   refine W.rg [(0, .func (.func 95) #[] #[.pointer (some ⟨b6, 0, none⟩)]), (1, .func (.func 62) #[] #[.pointer (some ⟨b4, 0, none⟩), .pointer (some ⟨b5, 0, none⟩)])] fun TA => ?_
   refine W.seq (W.region ?_)
   refine RW.mk H (.row ⟨[.func (.func 95) #[] #[pt b6]], 71, false⟩) ?_
   clear H; intro _ b7 _ H
   refine RW.mk H (.row ⟨[.func (.func 62) #[] #[pt b4, pt b5]], 41, false⟩) ?_
   clear H; intro _ b8 _ H
   refine RW.v ?_
   refine RW.nil ?_
   refine W.rg [(2, .pointer (some ⟨b7, 0, none⟩)), (3, .pointer (some ⟨b8, 0, none⟩))] fun TA => ?_
   refine W.seq (W.region ?_)
   refine RW.val (v := .func (.func 94) #[] #[.pointer (some ⟨b7, 0, none⟩), .pointer (some ⟨b8, 0, none⟩)]) (by kernel_rfl) (by kernel_rfl) (by kernel_rfl) (by kernel_rfl) ?_
   refine RW.v ?_
   refine RW.nil ?_
   refine W.ret ?_
   refine endG (by rfl) (by exact resL_tmp rfl) ?_
   refine RW.cl ?_
   refine WC.enter (fn := Tryd.f56) Tryd.func56 rfl ?_
   refine W.rg [(0, .func (.func 94) #[] #[.pointer (some ⟨b7, 0, none⟩), .pointer (some ⟨b8, 0, none⟩)])] fun TA => ?_
   refine W.seq (W.region ?_)
   refine RW.v ?_
   refine RW.nil ?_
   refine W.rg [(0, .func (.func 94) #[] #[.pointer (some ⟨b7, 0, none⟩), .pointer (some ⟨b8, 0, none⟩)])] fun TA => ?_
   refine W.seq (W.region ?_)
   refine RW.v ?_
   refine RW.cl ?_
   refine WC.enterD (fn := Tryd.f93) Tryd.func93 rfl ?_
   refine W.rg [(0, .slice none 0 0), (1, .func (.func 94) #[] #[.pointer (some ⟨b7, 0, none⟩), .pointer (some ⟨b8, 0, none⟩)])] fun TA => ?_
   refine W.seq (W.region ?_)
   refine RW.mk H (.row ⟨[.slice none 0 0], 22, false⟩) ?_
   clear H; intro _ b9 _ H
   refine RW.v ?_
   refine RW.nil ?_
   refine W.rg [(1, .func (.func 94) #[] #[.pointer (some ⟨b7, 0, none⟩), .pointer (some ⟨b8, 0, none⟩)]), (2, .pointer (some ⟨b9, 0, none⟩))] fun TA => ?_
   refine W.seq ?_
   refine W.seq (W.region ?_)
   refine RW.v ?_
   refine RW.nil ?_
   refine W.rg [(2, .pointer (some ⟨b9, 0, none⟩)), (6, .func (.func 94) #[] #[.pointer (some ⟨b7, 0, none⟩), .pointer (some ⟨b8, 0, none⟩)])] fun TA => ?_
   refine W.block ?_
   refine W.rst [(2, .pointer (some ⟨b9, 0, none⟩)), (6, .func (.func 94) #[] #[.pointer (some ⟨b7, 0, none⟩), .pointer (some ⟨b8, 0, none⟩)])] ⟨rfl, rfl, trivial⟩ fun TL14 => ?_
   refine W.rangeL H rfl (fun _ h => nomatch h) (fun _ h => nomatch h) (by kernel_rfl) fun _ d10 b11 lp12 hl13 H => ?_
   refine WC.enterD (fn := Tryd.f94) Tryd.func94 rfl ?_
   refine W.rg [(0, .func (.yield b11) #[] #[]), (1, .pointer (some ⟨b7, 0, none⟩)), (2, .pointer (some ⟨b8, 0, none⟩))] fun TA => ?_
   refine W.seq (W.region ?_)
   refine RW.mk H (.row ⟨[.func (.yield b11) #[] #[]], 41, false⟩) ?_
   clear H; intro _ b15 _ H
   refine RW.nil ?_
   refine W.rg [(1, .pointer (some ⟨b7, 0, none⟩)), (2, .pointer (some ⟨b8, 0, none⟩)), (3, .pointer (some ⟨b15, 0, none⟩))] fun TA => ?_
   refine W.seq (W.region ?_)
   refine RW.ld H 5 1 ?_
   refine RW.nil ?_
   refine W.rg [(2, .pointer (some ⟨b8, 0, none⟩)), (3, .pointer (some ⟨b15, 0, none⟩)), (5, .func (.func 95) #[] #[.pointer (some ⟨b6, 0, none⟩)])] fun TA => ?_
   refine W.block ?_
   refine W.rst [(2, .pointer (some ⟨b8, 0, none⟩)), (3, .pointer (some ⟨b15, 0, none⟩)), (5, .func (.func 95) #[] #[.pointer (some ⟨b6, 0, none⟩)])] ⟨rfl, rfl, rfl, trivial⟩ fun TL20 => ?_
   refine W.rangeL H rfl (fun _ h => nomatch h) (fun _ h => nomatch h) (by kernel_rfl) fun _ d16 b17 lp18 hl19 H => ?_
   refine WC.enter (fn := Tryd.f95) Tryd.func95 rfl ?_
   refine W.rg [(0, .func (.yield b17) #[] #[]), (1, .pointer (some ⟨b6, 0, none⟩))] fun TA => ?_
   refine W.seq (W.region ?_)
   refine RW.mkM H ?_
   clear H; intro _ b21 _ H
   refine RW.v ?_
   refine RW.nil ?_
   refine W.rg [(0, .func (.yield b17) #[] #[]), (1, .pointer (some ⟨b6, 0, none⟩)), (3, .map (some b21))] fun TA => ?_
   refine W.seq (W.region ?_)
   refine RW.ld H 9 1 ?_
   refine RW.len (by kernel_rfl) (by kernel_rfl) rfl rfl rfl rfl ((h1.le le0).len (e := 9) (by kernel_rfl)) (by kernel_rfl) ?_
   refine RW.v ?_
   refine RW.nil ?_
   refine W.rg [(0, .func (.yield b17) #[] #[]), (3, .map (some b21)), (7, v1), (8, .int .i64 (l.length : Int)), (9, .int .i64 0)] fun TA => ?_
   refine W.block ?_
   replace H := H.nilSl 9 1
   refine W.loop (fun mm ta σ => ∃ (i : Nat) (seen : List (List UInt8)) (acc : List (List UInt8)) (u : Value), (mm + i = l.length) ∧ (acc.length ≤ i) ∧ (T = acc ++ (distG seen (l.drop i)).filter (fun c => begC false (runes c) (runes s))) ∧ Lies G A F σ (.sl 9 1 u acc.length (acc.map strV) :: .at_ b21 (.ents (seenE seen) seen.length) :: .at_ b17 lp18 :: .at_ d16 (.defs true) :: .at_ b15 (.row ⟨[.func (.yield b11) #[] #[]], 41, false⟩) :: .at_ b11 lp12 :: .at_ d10 (.defs true) :: .at_ b9 (.row ⟨[u], 22, false⟩) :: .at_ b8 (.row ⟨[.func (.func 62) #[] #[.pointer (some ⟨b4, 0, none⟩), .pointer (some ⟨b5, 0, none⟩)]], 41, false⟩) :: .at_ b7 (.row ⟨[.func (.func 95) #[] #[.pointer (some ⟨b6, 0, none⟩)]], 71, false⟩) :: .at_ b6 (.row ⟨[v1], 22, false⟩) :: (L)) ∧ ta 0 = .func (.yield b17) #[] #[] ∧ ta 3 = .map (some b21) ∧ ta 7 = v1 ∧ ta 8 = .int .i64 (l.length : Int) ∧ ta 9 = .int .i64 ((i : Nat) : Int)) l.length ?_ ?_
   ·exact ⟨0, [], [], .slice none 0 0, (by omega), (Nat.zero_le _), hT0, H, rfl, rfl, rfl, rfl, rfl⟩
   clear H
   rintro mm ta _ ⟨i, seen, acc, u, hm, hac, hT, H, e0, e3, e7, e8, e9⟩
   refine W.rst [(0, .func (.yield b17) #[] #[]), (3, .map (some b21)), (7, v1), (8, .int .i64 (l.length : Int)), (9, .int .i64 ((i : Nat) : Int))] ⟨e0, e3, e7, e8, e9, trivial⟩ fun TA => ?_
   clear e0 e3 e7 e8 e9
   refine W.seq (W.region ?_)
   refine RW.v ?_
   refine RW.nil ?_
   refine W.rg [(0, .func (.yield b17) #[] #[]), (3, .map (some b21)), (7, v1), (8, .int .i64 (l.length : Int)), (9, .int .i64 ((i : Nat) : Int)), (10, .bool (decide (((i : Nat) : Int) < (l.length : Int))))] fun TA => ?_
   refine W.seq ?_
   refine W.cond rfl (fun hc22 => ?_) (fun hc22 => ?_)
   ·have hc22b := hc22
    have hc22 := of_decide_eq_true hc22
    have hil : i < l.length := by omega
    refine W.skip ?_
    refine W.seq ?_
    refine W.block ?_
    refine W.seq (W.region ?_)
    refine RW.idxF (h1.le le0) (by kernel_rfl) (by kernel_rfl) rfl Tryd.underlying22 (by kernel_rfl) rfl rfl ⟨by omega, by omega⟩ (by kernel_rfl) ?_
    intro b23 q24 r25 hF26 hE27
    rw [strs_at (l := l) (j := i) (i := ((i : Nat) : Int)) (by omega) (by omega)] at hE27
    refine RW.loads 1 (by kernel_rfl) (by kernel_rfl) rfl rfl (H.old _ _ hF26) hE27 rfl (by kernel_rfl) ?_
    refine RW.v ?_
    refine RW.nil ?_
    refine W.rg [(0, .func (.yield b17) #[] #[]), (3, .map (some b21)), (5, .string ⟨(l.getD i []).toArray⟩), (7, v1), (8, .int .i64 (l.length : Int)), (9, .int .i64 ((i : Nat) : Int))] fun TA => ?_
    refine W.seq ?_
    refine W.seq (W.region ?_)
    iterate 2 refine RW.v ?_
    refine RW.lkL H 1 (.bool (decide ((l.getD i []) ∈ seen))) ?_ (hv := look_seen rfl rfl (by kernel_rfl))
    refine RW.v ?_
    refine RW.both _ _ rfl rfl rfl (fun hc28 => ?_) (fun hc28 => ?_)
    ·have hc28b := hc28
     have hc28 := of_decide_eq_true hc28
     have hskip : (l.getD i []) ∈ seen ∨ validD (l.getD i []) = false := .inl hc28
     refine RW.skip (by rfl) (by kernel_rfl) ?_
     refine RW.skip (by rfl) (by kernel_rfl) ?_
     refine RW.skip (by rfl) (by kernel_rfl) ?_
     refine RW.v ?_
     refine RW.nil ?_
     refine W.c1 ?_
     refine W.exit _ ?_
     refine seqQ_exit ?_
     refine blkQ_here ?_
     refine W.region ?_
     refine RW.valE (v' := .int .i64 (((i : Nat) : Int) + 1)) (by kernel_rfl) (by kernel_rfl) rfl (congrArg (Value.int .i64) (wrap_in (by omega) (by omega))) (by kernel_rfl) ?_
     refine RW.v ?_
     refine RW.nil ?_
     exact ⟨rfl, mm - 1, by omega, i + 1, seen, acc, u, (by omega), (by omega), (by rw [hT, dist_skip hil hskip]), H, rfl, rfl, rfl, rfl, rfl⟩
    ·have hc28b := hc28
     have hc28 := of_decide_eq_false hc28
     have hnew := hc28
     refine RW.val (by rfl) (by kernel_rfl) rfl (by kernel_rfl) ?_
     refine RW.cl (hw := by rfl) ?_
     refine ⟨_, _, (s_valid (hU.le (fun b y h => H.old _ _ (le0 b y h))) h16 (hsm _ (mem_of (by omega)))), ?_⟩
     refine RW.val (by rfl) (by kernel_rfl) rfl (by kernel_rfl) ?_
     refine RW.v ?_
     refine RW.nil ?_
     refine W.rg [(0, .func (.yield b17) #[] #[]), (3, .map (some b21)), (5, .string ⟨(l.getD i []).toArray⟩), (7, v1), (8, .int .i64 (l.length : Int)), (9, .int .i64 ((i : Nat) : Int)), (20, .bool (!(validD (l.getD i []))))] fun TA => ?_
     refine W.cond rfl (fun hc29 => ?_) (fun hc29 => ?_)
     ·have hc29b := hc29
      have hval : validD (l.getD i []) = false := by simpa using hc29b
      have hskip : (l.getD i []) ∈ seen ∨ validD (l.getD i []) = false := .inr hval
      refine W.exit _ ?_
      refine seqQ_exit ?_
      refine blkQ_here ?_
      refine W.region ?_
      refine RW.valE (v' := .int .i64 (((i : Nat) : Int) + 1)) (by kernel_rfl) (by kernel_rfl) rfl (congrArg (Value.int .i64) (wrap_in (by omega) (by omega))) (by kernel_rfl) ?_
      refine RW.v ?_
      refine RW.nil ?_
      exact ⟨rfl, mm - 1, by omega, i + 1, seen, acc, u, (by omega), (by omega), (by rw [hT, dist_skip hil hskip]), H, rfl, rfl, rfl, rfl, rfl⟩
     ·have hc29b := hc29
      have hval : validD (l.getD i []) = true := by simpa using hc29b
      refine W.skip ?_
      refine W.seq (W.region ?_)
      iterate 2 refine RW.v ?_
      refine RW.upL H 1 (seenE (seen ++ [(l.getD i [])])) (seen.length + 1) ?_ (hv := upd_seen rfl rfl hnew)
      clear H; intro _ _ H; dsimp only [setL, delL] at H
      refine RW.nil ?_
      refine W.rg [(0, .func (.yield b17) #[] #[]), (3, .map (some b21)), (5, .string ⟨(l.getD i []).toArray⟩), (7, v1), (8, .int .i64 (l.length : Int)), (9, .int .i64 ((i : Nat) : Int))] fun TA => ?_
      refine W.seq (W.region ?_)
      iterate 2 refine RW.v ?_
      refine RW.yieldL H 2 rfl hl19 (by kernel_rfl) (by kernel_rfl) rfl rfl rfl rfl rfl (by kernel_rfl) ?_
      refine W.rg [(2, .pointer (some ⟨b8, 0, none⟩)), (3, .pointer (some ⟨b15, 0, none⟩)), (5, .func (.func 95) #[] #[.pointer (some ⟨b6, 0, none⟩)]), (6, .string ⟨(l.getD i []).toArray⟩)] fun TA => ?_
      refine W.region ?_
      refine RW.v ?_
      refine RW.nil ?_
      refine ⟨rfl, _, _, _, 2, H, rfl, ?_⟩
      clear H; intro _ lq30 hq31 H
      dsimp only [setL, delL] at H
      refine W.rg [(2, .pointer (some ⟨b8, 0, none⟩)), (3, .pointer (some ⟨b15, 0, none⟩)), (4, .string ⟨(l.getD i []).toArray⟩), (5, .func (.func 95) #[] #[.pointer (some ⟨b6, 0, none⟩)]), (6, .string ⟨(l.getD i []).toArray⟩)] fun TA => ?_
      refine W.block ?_
      refine W.seq (W.region ?_)
      refine RW.ld H 8 1 ?_
      refine RW.v ?_
      refine RW.cl ?_
      refine ((cl_all (fold := false) (s := (l.getD i [])) hb7 hb8 hk3.slf (runes_in s) (hsm _ (mem_of (by omega))) H).mono ?_)
      clear H
      rintro _ _ ⟨rfl, H⟩
      refine RW.v ?_
      refine RW.both _ _ rfl rfl rfl (fun hc32 => ?_) (fun hc32 => ?_)
      ·have hc32b := hc32
       refine RW.ldL H 4 1 (by rfl) (by kernel_rfl) rfl rfl rfl rfl rfl (by kernel_rfl) ?_
       refine RW.val (by rfl) (by kernel_rfl) rfl (by kernel_rfl) ?_
       refine RW.yieldL H 5 rfl hl13 (by rfl) (by kernel_rfl) rfl rfl rfl rfl rfl (by kernel_rfl) ?_
       refine W.rg [(2, .pointer (some ⟨b9, 0, none⟩)), (6, .func (.func 94) #[] #[.pointer (some ⟨b7, 0, none⟩), .pointer (some ⟨b8, 0, none⟩)]), (7, .string ⟨(l.getD i []).toArray⟩)] fun TA => ?_
       refine W.region ?_
       refine RW.v ?_
       refine RW.nil ?_
       refine ⟨rfl, _, _, _, 5, H, rfl, ?_⟩
       clear H; intro _ lq33 hq34 H
       dsimp only [setL, delL] at H
       refine W.rg [(2, .pointer (some ⟨b9, 0, none⟩)), (5, .string ⟨(l.getD i []).toArray⟩), (6, .func (.func 94) #[] #[.pointer (some ⟨b7, 0, none⟩), .pointer (some ⟨b8, 0, none⟩)]), (7, .string ⟨(l.getD i []).toArray⟩)] fun TA => ?_
       refine W.block ?_
       refine W.region ?_
       refine RW.ld H 7 1 ?_
       refine RW.v ?_
       refine RW.mkL H (x := .row ⟨[.string ⟨(l.getD i []).toArray⟩], 9, false⟩) (fm := fun b => .slice (some ⟨b, 0, none⟩) 1 1) (by kernel_rfl) (by kernel_rfl) (by kernel_rfl) (by kernel_rfl) ?_
       clear H; intro _ b35 _ H
       refine RW.appL H 1 0 (n := 1) (e2 := 9) (by kernel_rfl) (by kernel_rfl) rfl rfl rfl rfl rfl rfl rfl rfl (by kernel_rfl) (by kernel_rfl) (by kernel_rfl) (by decide) (by decide) rfl rfl (by omega) (by kernel_rfl) ?_
       clear H; intro _ v36 _ H
       dsimp only [setL, delL] at H
       refine RW.stL H 7 (vs := [v36]) (cs' := [v36]) (by kernel_rfl) (by kernel_rfl) rfl rfl rfl (H.sl 0 rfl).one (gr_all (H.sl 0 rfl)) (by kernel_rfl) (Nat.le_of_ble_eq_true rfl) rfl (by kernel_rfl) ?_
       clear H; intro _ _ H; dsimp only [setL, delL] at H
       refine RW.nil ?_
       refine blkQ_normal ?_
       refine ⟨_, _, _, 5, true, .ready, none, H, rfl, rfl, ?_⟩
       clear H; intro _ lr37 _ hr38 H
       dsimp only [setL, delL] at H
       refine RW.val (by rfl) (by kernel_rfl) rfl (by kernel_rfl) ?_
       refine RW.v ?_
       refine RW.nil ?_
       refine W.c0 ?_
       refine W.skip ?_
       refine blkQ_normal ?_
       refine ⟨_, _, _, 2, true, .ready, none, H, rfl, rfl, ?_⟩
       clear H; intro _ lr39 _ hr40 H
       dsimp only [setL, delL] at H
       refine RW.v ?_
       refine RW.nil ?_
       refine W.c0 ?_
       refine W.skip ?_
       refine blkQ_normal ?_
       refine W.region ?_
       refine RW.valE (v' := .int .i64 (((i : Nat) : Int) + 1)) (by kernel_rfl) (by kernel_rfl) rfl (congrArg (Value.int .i64) (wrap_in (by omega) (by omega))) (by kernel_rfl) ?_
       refine RW.v ?_
       refine RW.nil ?_
       rw [show lr39 = lp18 from hr40.trans hl19.symm] at H
       rw [show lr37 = lp12 from hr38.trans hl13.symm] at H
       rw [show seen.length + 1 = (seen ++ [(l.getD i [])]).length by rw [List.length_append]; rfl] at H
       rw [acc_snoc (x := (l.getD i []))] at H
       rw [show acc.length + 1 = (acc ++ [(l.getD i [])]).length by rw [List.length_append]; rfl] at H
       exact ⟨rfl, mm - 1, by omega, i + 1, (seen ++ [(l.getD i [])]), (acc ++ [(l.getD i [])]), v36, (by omega), (by rw [List.length_append, List.length_singleton]; omega), (by rw [hT, dist_take hil hnew hval, List.filter_cons_of_pos (p := (fun c => begC false (runes c) (runes s))) hc32b, List.append_assoc]; rfl), H, rfl, rfl, rfl, rfl, rfl⟩
      ·have hc32b := hc32
       refine RW.skip (by rfl) (by kernel_rfl) ?_
       refine RW.skip (by rfl) (by kernel_rfl) ?_
       refine RW.skip (by rfl) (by kernel_rfl) ?_
       refine RW.skip (by rfl) (by kernel_rfl) ?_
       refine RW.v ?_
       refine RW.nil ?_
       refine W.c0 ?_
       refine W.skip ?_
       refine blkQ_normal ?_
       refine ⟨_, _, _, 2, true, .ready, none, H, rfl, rfl, ?_⟩
       clear H; intro _ lr41 _ hr42 H
       dsimp only [setL, delL] at H
       refine RW.v ?_
       refine RW.nil ?_
       refine W.c0 ?_
       refine W.skip ?_
       refine blkQ_normal ?_
       refine W.region ?_
       refine RW.valE (v' := .int .i64 (((i : Nat) : Int) + 1)) (by kernel_rfl) (by kernel_rfl) rfl (congrArg (Value.int .i64) (wrap_in (by omega) (by omega))) (by kernel_rfl) ?_
       refine RW.v ?_
       refine RW.nil ?_
       rw [show lr41 = lp18 from hr42.trans hl19.symm] at H
       rw [show seen.length + 1 = (seen ++ [(l.getD i [])]).length by rw [List.length_append]; rfl] at H
       exact ⟨rfl, mm - 1, by omega, i + 1, (seen ++ [(l.getD i [])]), acc, u, (by omega), (by omega), (by rw [hT, dist_take hil hnew hval, List.filter_cons_of_neg (p := (fun c => begC false (runes c) (runes s))) (by rw [hc32b]; exact Bool.false_ne_true)]), H, rfl, rfl, rfl, rfl, rfl⟩
   ·have hc22b := hc22
    have hc22 := of_decide_eq_false hc22
    refine W.exit _ ?_
    refine seqQ_exit ?_
    refine rndQ_exit ?_
    have hR : T = acc := by rw [hT, List.drop_eq_nil_of_le (by omega)]; exact List.append_nil _
    refine blkQ_here ?_
    refine endG (by rfl) (by exact rfl) ?_
    refine ⟨_, _, _, 2, _, _, _, _, H, rfl, hl19, rfl, rfl, ?_⟩
    clear H; intro _ H
    dsimp only [setL, delL] at H
    refine blkQ_normal ?_
    refine endMark H 2 rfl fun _ H => ?_
    dsimp only [setL, delL] at H
    refine endGD0 (by rfl) (by exact rfl) ?_
    refine ⟨_, _, _, 3, _, _, _, _, H, rfl, hl13, rfl, rfl, ?_⟩
    clear H; intro _ H
    dsimp only [setL, delL] at H
    refine blkQ_normal ?_
    refine W.seq (W.region ?_)
    refine RW.ld H 4 1 ?_
    refine RW.v ?_
    refine RW.nil ?_
    replace H := (((H.del 4).del 2).del 1)
    dsimp only [setL, delL] at H
    refine W.ret ?_
    refine endMark H 1 rfl fun _ H => ?_
    dsimp only [setL, delL] at H
    refine endGD0 (by rfl) (by exact resL_tmp rfl) ?_
    refine RW.v ?_
    refine RW.nil ?_
    refine W.ret ?_
    refine endG (by rfl) (by exact resL_tmp rfl) ?_
    refine RW.v ?_
    refine RW.nil ?_
    replace H := (((H.del 3).del 2).del 1)
    dsimp only [setL, delL] at H
    refine W.ret ?_
    refine endG (by rfl) (by exact resL_tmp rfl) ?_
    rw [← hTd, hR]
    obtain ⟨F', le, hv, H⟩ := H.freezeSl 0 rfl
    dsimp only [setL, delL] at H
    exact ⟨F', fun b y h => le b y (le0 b y h), hv, H⟩
set_option maxHeartbeats 16000000 in
theorem Test_wc (hU : U8F F) (h16 : 16 ≤ G) (h1 : SlF F 1 v1 l.length (l.map strV)) (hl : l.length ≤ 1000000) (hsm : ∀ s ∈ l, s.length ≤ 1000000) (hs : s.length ≤ 1000000) (H : Lies G A F σ L) : WC G Tryd.prog 28 #[v1, .string ⟨s.toArray⟩, .bool fold] σ fun v σ' => v = .bool (testC fold l s) ∧ Lies G A F σ' L := by
 cases fold with
 | true =>
  obtain ⟨F0, hF⟩ : ∃ F0, F0 = F := ⟨_, rfl⟩
  have le0 : Le F0 F := fun b y h => hF ▸ h
  rw [← hF] at h1 hU ⊢
  refine WC.enter (fn := Tryd.f28) Tryd.func28 rfl ?_
  refine W.rg [(0, v1), (1, .string ⟨s.toArray⟩), (2, .bool true)] fun TA => ?_
  refine W.seq (W.region ?_)
  refine RW.v ?_
  refine RW.nil ?_
  refine W.rg [(0, v1), (1, .string ⟨s.toArray⟩), (2, .bool true)] fun TA => ?_
  refine W.seq (W.region ?_)
  refine RW.v ?_
  refine RW.cl ?_
  refine ((by_wc (fold := true) H).mono ?_)
  clear H
  rintro _ _ ⟨rfl, H⟩
  refine RW.v ?_
  refine RW.convR H hs (by kernel_rfl) (by kernel_rfl) rfl rfl rfl rfl rfl (by kernel_rfl) ?_
  clear H; intro _ cv1 H
  obtain ⟨F, le, hk2, H⟩ := H.freezeK 0 rfl
  dsimp only [setL, delL] at H
  replace le0 := fun b y h => le b y (le0 b y h)
  refine RW.mk H (.row ⟨[.nilFunc], 47, false⟩) ?_
  clear H; intro _ b3 _ H
  refine RW.mk H (.row ⟨[.slice none 0 0], 50, false⟩) ?_
  clear H; intro _ b4 _ H
  refine RW.st H 1 [.func (.func 84) #[] #[]] [.func (.func 84) #[] #[]] ?_
  clear H; intro _ _ H; dsimp only [setL, delL] at H
  refine RW.stL H 0 (vs := [cv1]) (cs' := [cv1]) (by kernel_rfl) (by kernel_rfl) rfl rfl rfl (slf_one hk2.slf) (slf_all hk2.slf) (by kernel_rfl) (Nat.le_of_ble_eq_true rfl) rfl (by kernel_rfl) ?_
  clear H; intro _ _ H; dsimp only [setL, delL] at H
  refine RW.nil ?_
  refine W.rg [(0, v1), (1, .string ⟨s.toArray⟩), (7, .pointer (some ⟨b3, 0, none⟩)), (8, .pointer (some ⟨b4, 0, none⟩))] fun TA => ?_
  refine W.seq (W.region ?_)
  refine RW.v ?_
  refine RW.cl ?_
  refine ⟨_, _, (s_valid (hU.le (fun b y h => H.old _ _ (le0 b y h))) h16 hs), ?_⟩
  refine RW.v ?_
  refine RW.both _ _ rfl rfl rfl (fun hc5 => ?_) (fun hc5 => ?_)
  ·have hc5b := hc5
   have hvs := hc5b
   refine RW.val (by rfl) (by kernel_rfl) rfl (by kernel_rfl) ?_
   obtain ⟨T, hTd⟩ : ∃ T, T = distM l := ⟨_, rfl⟩
   have hT0 : T = [] ++ distG [] (l.drop 0) := hTd
   refine RW.cl (hw := by rfl) ?_
   refine WC.enter (fn := Tryd.f58) Tryd.func58 rfl ?_
   refine W.rg [(0, v1)] fun TA => ?_
   refine W.seq (W.region ?_)
   refine RW.mk H (.row ⟨(v1).cells.toList, 22, false⟩) ?_
   clear H; intro _ b6 _ H
   rw [(slf_one (h1.le le0))] at H
   refine RW.v ?_
   refine RW.nil ?_
   refine W.rg [(1, .pointer (some ⟨b6, 0, none⟩))] fun TA => ?_
   refine W.seq (W.region ?_)
   refine RW.val (v := .func (.func 95) #[] #[.pointer (some ⟨b6, 0, none⟩)]) (by kernel_rfl) (by kernel_rfl) (by kernel_rfl) (by kernel_rfl) ?_
   refine RW.v ?_
   refine RW.nil ?_
   refine W.ret ?_
   refine endG (by rfl) (by exact resL_tmp rfl) ?_
   refine RW.cl (hw := by rfl) ?_
   refine WC.enter (fn := Tryd.f56) Tryd.func56 rfl ?_
   refine W.rg [(0, .func (.func 95) #[] #[.pointer (some ⟨b6, 0, none⟩)])] fun TA => ?_
   refine W.seq (W.region ?_)
   refine RW.v ?_
   refine RW.nil ?_
   refine W.rg [(0, .func (.func 95) #[] #[.pointer (some ⟨b6, 0, none⟩)])] fun TA => ?_
   refine W.seq (W.region ?_)
   refine RW.v ?_
   refine RW.cl ?_
   refine WC.enterD (fn := Tryd.f93) Tryd.func93 rfl ?_
   refine W.rg [(0, .slice none 0 0), (1, .func (.func 95) #[] #[.pointer (some ⟨b6, 0, none⟩)])] fun TA => ?_
   refine W.seq (W.region ?_)
   refine RW.mk H (.row ⟨[.slice none 0 0], 22, false⟩) ?_
   clear H; intro _ b7 _ H
   refine RW.v ?_
   refine RW.nil ?_
   refine W.rg [(1, .func (.func 95) #[] #[.pointer (some ⟨b6, 0, none⟩)]), (2, .pointer (some ⟨b7, 0, none⟩))] fun TA => ?_
   refine W.seq ?_
   refine W.seq (W.region ?_)
   refine RW.v ?_
   refine RW.nil ?_
   refine W.rg [(2, .pointer (some ⟨b7, 0, none⟩)), (6, .func (.func 95) #[] #[.pointer (some ⟨b6, 0, none⟩)])] fun TA => ?_
   refine W.block ?_
   refine W.rst [(2, .pointer (some ⟨b7, 0, none⟩)), (6, .func (.func 95) #[] #[.pointer (some ⟨b6, 0, none⟩)])] ⟨rfl, rfl, trivial⟩ fun TL12 => ?_
   refine W.rangeL H rfl (fun _ h => nomatch h) (fun _ h => nomatch h) (by kernel_rfl) fun _ d8 b9 lp10 hl11 H => ?_
   refine WC.enter (fn := Tryd.f95) Tryd.func95 rfl ?_
   refine W.rg [(0, .func (.yield b9) #[] #[]), (1, .pointer (some ⟨b6, 0, none⟩))] fun TA => ?_
   refine W.seq (W.region ?_)
   refine RW.mkM H ?_
   clear H; intro _ b13 _ H
   refine RW.v ?_
   refine RW.nil ?_
   refine W.rg [(0, .func (.yield b9) #[] #[]), (1, .pointer (some ⟨b6, 0, none⟩)), (3, .map (some b13))] fun TA => ?_
   refine W.seq (W.region ?_)
   refine RW.ld H 4 1 ?_
   refine RW.len (by kernel_rfl) (by kernel_rfl) rfl rfl rfl rfl ((h1.le le0).len (e := 9) (by kernel_rfl)) (by kernel_rfl) ?_
   refine RW.v ?_
   refine RW.nil ?_
   refine W.rg [(0, .func (.yield b9) #[] #[]), (3, .map (some b13)), (7, v1), (8, .int .i64 (l.length : Int)), (9, .int .i64 0)] fun TA => ?_
   refine W.block ?_
   replace H := H.nilSl 9 1
   refine W.loop (fun mm ta σ => ∃ (i : Nat) (seen : List (List UInt8)) (acc : List (List UInt8)) (u : Value), (mm + i = l.length) ∧ (acc.length ≤ i) ∧ (T = acc ++ distG seen (l.drop i)) ∧ Lies G A F σ (.sl 9 1 u acc.length (acc.map strV) :: .at_ b13 (.ents (seenE seen) seen.length) :: .at_ b9 lp10 :: .at_ d8 (.defs true) :: .at_ b7 (.row ⟨[u], 22, false⟩) :: .at_ b6 (.row ⟨[v1], 22, false⟩) :: .at_ b4 (.row ⟨[cv1], 50, false⟩) :: .at_ b3 (.row ⟨[.func (.func 84) #[] #[]], 47, false⟩) :: (L)) ∧ ta 0 = .func (.yield b9) #[] #[] ∧ ta 3 = .map (some b13) ∧ ta 7 = v1 ∧ ta 8 = .int .i64 (l.length : Int) ∧ ta 9 = .int .i64 ((i : Nat) : Int)) l.length ?_ ?_
   ·exact ⟨0, [], [], .slice none 0 0, (by omega), (Nat.zero_le _), hT0, H, rfl, rfl, rfl, rfl, rfl⟩
   clear H
   rintro mm ta _ ⟨i, seen, acc, u, hm, hac, hT, H, e0, e3, e7, e8, e9⟩
   refine W.rst [(0, .func (.yield b9) #[] #[]), (3, .map (some b13)), (7, v1), (8, .int .i64 (l.length : Int)), (9, .int .i64 ((i : Nat) : Int))] ⟨e0, e3, e7, e8, e9, trivial⟩ fun TA => ?_
   clear e0 e3 e7 e8 e9
   refine W.seq (W.region ?_)
   refine RW.v ?_
   refine RW.nil ?_
   refine W.rg [(0, .func (.yield b9) #[] #[]), (3, .map (some b13)), (7, v1), (8, .int .i64 (l.length : Int)), (9, .int .i64 ((i : Nat) : Int)), (10, .bool (decide (((i : Nat) : Int) < (l.length : Int))))] fun TA => ?_
   refine W.seq ?_
   refine W.cond rfl (fun hc14 => ?_) (fun hc14 => ?_)
   ·have hc14b := hc14
    have hc14 := of_decide_eq_true hc14
    have hil : i < l.length := by omega
    refine W.skip ?_
    refine W.seq ?_
    refine W.block ?_
    refine W.seq (W.region ?_)
    refine RW.idxF (h1.le le0) (by kernel_rfl) (by kernel_rfl) rfl Tryd.underlying22 (by kernel_rfl) rfl rfl ⟨by omega, by omega⟩ (by kernel_rfl) ?_
    intro b15 q16 r17 hF18 hE19
    rw [strs_at (l := l) (j := i) (i := ((i : Nat) : Int)) (by omega) (by omega)] at hE19
    refine RW.loads 1 (by kernel_rfl) (by kernel_rfl) rfl rfl (H.old _ _ hF18) hE19 rfl (by kernel_rfl) ?_
    refine RW.v ?_
    refine RW.nil ?_
    refine W.rg [(0, .func (.yield b9) #[] #[]), (3, .map (some b13)), (5, .string ⟨(l.getD i []).toArray⟩), (7, v1), (8, .int .i64 (l.length : Int)), (9, .int .i64 ((i : Nat) : Int))] fun TA => ?_
    refine W.seq ?_
    refine W.seq (W.region ?_)
    iterate 2 refine RW.v ?_
    refine RW.lkL H 1 (.bool (decide ((l.getD i []) ∈ seen))) ?_ (hv := look_seen rfl rfl (by kernel_rfl))
    refine RW.v ?_
    refine RW.both _ _ rfl rfl rfl (fun hc20 => ?_) (fun hc20 => ?_)
    ·have hc20b := hc20
     have hc20 := of_decide_eq_true hc20
     have hskip : (l.getD i []) ∈ seen ∨ validD (l.getD i []) = false := .inl hc20
     refine RW.skip (by rfl) (by kernel_rfl) ?_
     refine RW.skip (by rfl) (by kernel_rfl) ?_
     refine RW.skip (by rfl) (by kernel_rfl) ?_
     refine RW.v ?_
     refine RW.nil ?_
     refine W.c1 ?_
     refine W.exit _ ?_
     refine seqQ_exit ?_
     refine blkQ_here ?_
     refine W.region ?_
     refine RW.valE (v' := .int .i64 (((i : Nat) : Int) + 1)) (by kernel_rfl) (by kernel_rfl) rfl (congrArg (Value.int .i64) (wrap_in (by omega) (by omega))) (by kernel_rfl) ?_
     refine RW.v ?_
     refine RW.nil ?_
     exact ⟨rfl, mm - 1, by omega, i + 1, seen, acc, u, (by omega), (by omega), (by rw [hT, dist_skip hil hskip]), H, rfl, rfl, rfl, rfl, rfl⟩
    ·have hc20b := hc20
     have hc20 := of_decide_eq_false hc20
     have hnew := hc20
     refine RW.val (by rfl) (by kernel_rfl) rfl (by kernel_rfl) ?_
     refine RW.cl (hw := by rfl) ?_
     refine ⟨_, _, (s_valid (hU.le (fun b y h => H.old _ _ (le0 b y h))) h16 (hsm _ (mem_of (by omega)))), ?_⟩
     refine RW.val (by rfl) (by kernel_rfl) rfl (by kernel_rfl) ?_
     refine RW.v ?_
     refine RW.nil ?_
     refine W.rg [(0, .func (.yield b9) #[] #[]), (3, .map (some b13)), (5, .string ⟨(l.getD i []).toArray⟩), (7, v1), (8, .int .i64 (l.length : Int)), (9, .int .i64 ((i : Nat) : Int)), (20, .bool (!(validD (l.getD i []))))] fun TA => ?_
     refine W.cond rfl (fun hc21 => ?_) (fun hc21 => ?_)
     ·have hc21b := hc21
      have hval : validD (l.getD i []) = false := by simpa using hc21b
      have hskip : (l.getD i []) ∈ seen ∨ validD (l.getD i []) = false := .inr hval
      refine W.exit _ ?_
      refine seqQ_exit ?_
      refine blkQ_here ?_
      refine W.region ?_
      refine RW.valE (v' := .int .i64 (((i : Nat) : Int) + 1)) (by kernel_rfl) (by kernel_rfl) rfl (congrArg (Value.int .i64) (wrap_in (by omega) (by omega))) (by kernel_rfl) ?_
      refine RW.v ?_
      refine RW.nil ?_
      exact ⟨rfl, mm - 1, by omega, i + 1, seen, acc, u, (by omega), (by omega), (by rw [hT, dist_skip hil hskip]), H, rfl, rfl, rfl, rfl, rfl⟩
     ·have hc21b := hc21
      have hval : validD (l.getD i []) = true := by simpa using hc21b
      refine W.skip ?_
      refine W.seq (W.region ?_)
      iterate 2 refine RW.v ?_
      refine RW.upL H 1 (seenE (seen ++ [(l.getD i [])])) (seen.length + 1) ?_ (hv := upd_seen rfl rfl hnew)
      clear H; intro _ _ H; dsimp only [setL, delL] at H
      refine RW.nil ?_
      refine W.rg [(0, .func (.yield b9) #[] #[]), (3, .map (some b13)), (5, .string ⟨(l.getD i []).toArray⟩), (7, v1), (8, .int .i64 (l.length : Int)), (9, .int .i64 ((i : Nat) : Int))] fun TA => ?_
      refine W.seq (W.region ?_)
      iterate 2 refine RW.v ?_
      refine RW.yieldL H 2 rfl hl11 (by kernel_rfl) (by kernel_rfl) rfl rfl rfl rfl rfl (by kernel_rfl) ?_
      refine W.rg [(2, .pointer (some ⟨b7, 0, none⟩)), (6, .func (.func 95) #[] #[.pointer (some ⟨b6, 0, none⟩)]), (7, .string ⟨(l.getD i []).toArray⟩)] fun TA => ?_
      refine W.region ?_
      refine RW.v ?_
      refine RW.nil ?_
      refine ⟨rfl, _, _, _, 2, H, rfl, ?_⟩
      clear H; intro _ lq22 hq23 H
      dsimp only [setL, delL] at H
      refine W.rg [(2, .pointer (some ⟨b7, 0, none⟩)), (5, .string ⟨(l.getD i []).toArray⟩), (6, .func (.func 95) #[] #[.pointer (some ⟨b6, 0, none⟩)]), (7, .string ⟨(l.getD i []).toArray⟩)] fun TA => ?_
      refine W.block ?_
      refine W.region ?_
      refine RW.ld H 4 1 ?_
      refine RW.v ?_
      refine RW.mkL H (x := .row ⟨[.string ⟨(l.getD i []).toArray⟩], 9, false⟩) (fm := fun b => .slice (some ⟨b, 0, none⟩) 1 1) (by kernel_rfl) (by kernel_rfl) (by kernel_rfl) (by kernel_rfl) ?_
      clear H; intro _ b24 _ H
      refine RW.appL H 1 0 (n := 1) (e2 := 9) (by kernel_rfl) (by kernel_rfl) rfl rfl rfl rfl rfl rfl rfl rfl (by kernel_rfl) (by kernel_rfl) (by kernel_rfl) (by decide) (by decide) rfl rfl (by omega) (by kernel_rfl) ?_
      clear H; intro _ v25 _ H
      dsimp only [setL, delL] at H
      refine RW.stL H 4 (vs := [v25]) (cs' := [v25]) (by kernel_rfl) (by kernel_rfl) rfl rfl rfl (H.sl 0 rfl).one (gr_all (H.sl 0 rfl)) (by kernel_rfl) (Nat.le_of_ble_eq_true rfl) rfl (by kernel_rfl) ?_
      clear H; intro _ _ H; dsimp only [setL, delL] at H
      refine RW.nil ?_
      refine blkQ_normal ?_
      refine ⟨_, _, _, 2, true, .ready, none, H, rfl, rfl, ?_⟩
      clear H; intro _ lr26 _ hr27 H
      dsimp only [setL, delL] at H
      refine RW.v ?_
      refine RW.nil ?_
      refine W.c0 ?_
      refine W.skip ?_
      refine blkQ_normal ?_
      refine W.region ?_
      refine RW.valE (v' := .int .i64 (((i : Nat) : Int) + 1)) (by kernel_rfl) (by kernel_rfl) rfl (congrArg (Value.int .i64) (wrap_in (by omega) (by omega))) (by kernel_rfl) ?_
      refine RW.v ?_
      refine RW.nil ?_
      rw [show lr26 = lp10 from hr27.trans hl11.symm] at H
      rw [show seen.length + 1 = (seen ++ [(l.getD i [])]).length by rw [List.length_append]; rfl] at H
      rw [acc_snoc (x := (l.getD i []))] at H
      rw [show acc.length + 1 = (acc ++ [(l.getD i [])]).length by rw [List.length_append]; rfl] at H
      exact ⟨rfl, mm - 1, by omega, i + 1, (seen ++ [(l.getD i [])]), (acc ++ [(l.getD i [])]), v25, (by omega), (by rw [List.length_append, List.length_singleton]; omega), (by rw [hT, dist_take hil hnew hval, List.append_assoc]; rfl), H, rfl, rfl, rfl, rfl, rfl⟩
   ·have hc14b := hc14
    have hc14 := of_decide_eq_false hc14
    refine W.exit _ ?_
    refine seqQ_exit ?_
    refine rndQ_exit ?_
    have hR : T = acc := by rw [hT, List.drop_eq_nil_of_le (by omega)]; exact List.append_nil _
    refine blkQ_here ?_
    refine endG (by rfl) (by exact rfl) ?_
    refine ⟨_, _, _, 2, _, _, _, _, H, rfl, hl11, rfl, rfl, ?_⟩
    clear H; intro _ H
    dsimp only [setL, delL] at H
    refine blkQ_normal ?_
    refine W.seq (W.region ?_)
    refine RW.ld H 3 1 ?_
    refine RW.v ?_
    refine RW.nil ?_
    replace H := ((H.del 3).del 1)
    dsimp only [setL, delL] at H
    refine W.ret ?_
    refine endMark H 1 rfl fun _ H => ?_
    dsimp only [setL, delL] at H
    refine endGD0 (by rfl) (by exact resL_tmp rfl) ?_
    refine RW.v ?_
    refine RW.nil ?_
    refine W.ret ?_
    refine endG (by rfl) (by exact resL_tmp rfl) ?_
    refine RW.val (v := .func (.func 66) #[] #[.pointer (some ⟨b3, 0, none⟩), .pointer (some ⟨b4, 0, none⟩)]) (by rfl) (by kernel_rfl) (by kernel_rfl) (by kernel_rfl) ?_
    obtain ⟨F, le, hb7, H⟩ := H.freeze 3 rfl
    dsimp only [setL, delL] at H
    replace le0 := fun b y h => le b y (le0 b y h)
    replace hk2 := hk2.le le
    obtain ⟨F, le, hb8, H⟩ := H.freeze 2 rfl
    dsimp only [setL, delL] at H
    replace le0 := fun b y h => le b y (le0 b y h)
    replace hk2 := hk2.le le
    replace hb7 := le _ _ hb7
    obtain ⟨F, le, hcol, H⟩ := H.freezeSl 0 rfl
    dsimp only [setL, delL] at H
    replace le0 := fun b y h => le b y (le0 b y h)
    replace hk2 := hk2.le le
    replace hb7 := le _ _ hb7
    replace hb8 := le _ _ hb8
    rw [← hR] at hcol
    have hmem : ∀ x ∈ T, x ∈ l := fun x hx => (distM_mem.1 (by rw [← hTd]; exact hx)).1
    have hTl : T.length ≤ 1000000 := by rw [hR]; omega
    refine RW.cl (hw := by rfl) ?_
    refine ((ct_test (fold := true) hcol hTl (fun x hx => hsm x (hmem x hx)) hb7 hb8 hk2.slf (runes_in s) H).mono ?_)
    clear H
    rintro _ _ ⟨rfl, H⟩
    iterate 2 refine RW.v ?_
    refine RW.nil ?_
    replace H := (H.del 0)
    dsimp only [setL, delL] at H
    refine W.ret ?_
    refine endG (by rfl) (by exact resL_tmp rfl) ?_
    have et : testC true l s = (T.any fun c => eqC true (runes c) (runes s)) := by unfold testC; rw [hvs, Bool.true_and, ← hTd]
    rw [et]
    exact ⟨rfl, (H).back le0⟩
  ·have hc5b := hc5
   have hvs := hc5b
   refine RW.skip (by rfl) (by kernel_rfl) ?_
   refine RW.skip (by rfl) (by kernel_rfl) ?_
   refine RW.skip (by rfl) (by kernel_rfl) ?_
   refine RW.skip (by rfl) (by kernel_rfl) ?_
   refine RW.skip (by rfl) (by kernel_rfl) ?_
   iterate 2 refine RW.v ?_
   refine RW.nil ?_
   replace H := ((H.del 1).del 0)
   dsimp only [setL, delL] at H
   refine W.ret ?_
   refine endG (by rfl) (by exact resL_tmp rfl) ?_
   have et : testC true l s = false := by unfold testC; rw [hvs, Bool.false_and]
   rw [et]
   exact ⟨rfl, (H).back le0⟩
 | false =>
  obtain ⟨F0, hF⟩ : ∃ F0, F0 = F := ⟨_, rfl⟩
  have le0 : Le F0 F := fun b y h => hF ▸ h
  rw [← hF] at h1 hU ⊢
  refine WC.enter (fn := Tryd.f28) Tryd.func28 rfl ?_
  refine W.rg [(0, v1), (1, .string ⟨s.toArray⟩), (2, .bool false)] fun TA => ?_
  refine W.seq (W.region ?_)
  refine RW.v ?_
  refine RW.nil ?_
  refine W.rg [(0, v1), (1, .string ⟨s.toArray⟩), (2, .bool false)] fun TA => ?_
  refine W.seq (W.region ?_)
  refine RW.v ?_
  refine RW.cl ?_
  refine ((by_wc (fold := false) H).mono ?_)
  clear H
  rintro _ _ ⟨rfl, H⟩
  refine RW.v ?_
  refine RW.convR H hs (by kernel_rfl) (by kernel_rfl) rfl rfl rfl rfl rfl (by kernel_rfl) ?_
  clear H; intro _ cv1 H
  obtain ⟨F, le, hk2, H⟩ := H.freezeK 0 rfl
  dsimp only [setL, delL] at H
  replace le0 := fun b y h => le b y (le0 b y h)
  refine RW.mk H (.row ⟨[.nilFunc], 47, false⟩) ?_
  clear H; intro _ b3 _ H
  refine RW.mk H (.row ⟨[.slice none 0 0], 50, false⟩) ?_
  clear H; intro _ b4 _ H
  refine RW.st H 1 [.func (.func 86) #[] #[]] [.func (.func 86) #[] #[]] ?_
  clear H; intro _ _ H; dsimp only [setL, delL] at H
  refine RW.stL H 0 (vs := [cv1]) (cs' := [cv1]) (by kernel_rfl) (by kernel_rfl) rfl rfl rfl (slf_one hk2.slf) (slf_all hk2.slf) (by kernel_rfl) (Nat.le_of_ble_eq_true rfl) rfl (by kernel_rfl) ?_
  clear H; intro _ _ H; dsimp only [setL, delL] at H
  refine RW.nil ?_
  refine W.rg [(0, v1), (1, .string ⟨s.toArray⟩), (7, .pointer (some ⟨b3, 0, none⟩)), (8, .pointer (some ⟨b4, 0, none⟩))] fun TA => ?_
  refine W.seq (W.region ?_)
  refine RW.v ?_
  refine RW.cl ?_
  refine ⟨_, _, (s_valid (hU.le (fun b y h => H.old _ _ (le0 b y h))) h16 hs), ?_⟩
  refine RW.v ?_
  refine RW.both _ _ rfl rfl rfl (fun hc5 => ?_) (fun hc5 => ?_)
  ·have hc5b := hc5
   have hvs := hc5b
   refine RW.val (by rfl) (by kernel_rfl) rfl (by kernel_rfl) ?_
   obtain ⟨T, hTd⟩ : ∃ T, T = distM l := ⟨_, rfl⟩
   have hT0 : T = [] ++ distG [] (l.drop 0) := hTd
   refine RW.cl (hw := by rfl) ?_
   refine WC.enter (fn := Tryd.f58) Tryd.func58 rfl ?_
   refine W.rg [(0, v1)] fun TA => ?_
   refine W.seq (W.region ?_)
   refine RW.mk H (.row ⟨(v1).cells.toList, 22, false⟩) ?_
   clear H; intro _ b6 _ H
   rw [(slf_one (h1.le le0))] at H
   refine RW.v ?_
   refine RW.nil ?_
   refine W.rg [(1, .pointer (some ⟨b6, 0, none⟩))] fun TA => ?_
   refine W.seq (W.region ?_)
   refine RW.val (v := .func (.func 95) #[] #[.pointer (some ⟨b6, 0, none⟩)]) (by kernel_rfl) (by kernel_rfl) (by kernel_rfl) (by kernel_rfl) ?_
   refine RW.v ?_
   refine RW.nil ?_
   refine W.ret ?_
   refine endG (by rfl) (by exact resL_tmp rfl) ?_
   refine RW.cl (hw := by rfl) ?_
   refine WC.enter (fn := Tryd.f56) Tryd.func56 rfl ?_
   refine W.rg [(0, .func (.func 95) #[] #[.pointer (some ⟨b6, 0, none⟩)])] fun TA => ?_
   refine W.seq (W.region ?_)
   refine RW.v ?_
   refine RW.nil ?_
   refine W.rg [(0, .func (.func 95) #[] #[.pointer (some ⟨b6, 0, none⟩)])] fun TA => ?_
   refine W.seq (W.region ?_)
   refine RW.v ?_
   refine RW.cl ?_
   refine WC.enterD (fn := Tryd.f93) Tryd.func93 rfl ?_
   refine W.rg [(0, .slice none 0 0), (1, .func (.func 95) #[] #[.pointer (some ⟨b6, 0, none⟩)])] fun TA => ?_
   refine W.seq (W.region ?_)
   refine RW.mk H (.row ⟨[.slice none 0 0], 22, false⟩) ?_
   clear H; intro _ b7 _ H
   refine RW.v ?_
   refine RW.nil ?_
   refine W.rg [(1, .func (.func 95) #[] #[.pointer (some ⟨b6, 0, none⟩)]), (2, .pointer (some ⟨b7, 0, none⟩))] fun TA => ?_
   refine W.seq ?_
   refine W.seq (W.region ?_)
   refine RW.v ?_
   refine RW.nil ?_
   refine W.rg [(2, .pointer (some ⟨b7, 0, none⟩)), (6, .func (.func 95) #[] #[.pointer (some ⟨b6, 0, none⟩)])] fun TA => ?_
   refine W.block ?_
   refine W.rst [(2, .pointer (some ⟨b7, 0, none⟩)), (6, .func (.func 95) #[] #[.pointer (some ⟨b6, 0, none⟩)])] ⟨rfl, rfl, trivial⟩ fun TL12 => ?_
   refine W.rangeL H rfl (fun _ h => nomatch h) (fun _ h => nomatch h) (by kernel_rfl) fun _ d8 b9 lp10 hl11 H => ?_
   refine WC.enter (fn := Tryd.f95) Tryd.func95 rfl ?_
   refine W.rg [(0, .func (.yield b9) #[] #[]), (1, .pointer (some ⟨b6, 0, none⟩))] fun TA => ?_
   refine W.seq (W.region ?_)
   refine RW.mkM H ?_
   clear H; intro _ b13 _ H
   refine RW.v ?_
   refine RW.nil ?_
   refine W.rg [(0, .func (.yield b9) #[] #[]), (1, .pointer (some ⟨b6, 0, none⟩)), (3, .map (some b13))] fun TA => ?_
   refine W.seq (W.region ?_)
   refine RW.ld H 4 1 ?_
   refine RW.len (by kernel_rfl) (by kernel_rfl) rfl rfl rfl rfl ((h1.le le0).len (e := 9) (by kernel_rfl)) (by kernel_rfl) ?_
   refine RW.v ?_
   refine RW.nil ?_
   refine W.rg [(0, .func (.yield b9) #[] #[]), (3, .map (some b13)), (7, v1), (8, .int .i64 (l.length : Int)), (9, .int .i64 0)] fun TA => ?_
   refine W.block ?_
   replace H := H.nilSl 9 1
   refine W.loop (fun mm ta σ => ∃ (i : Nat) (seen : List (List UInt8)) (acc : List (List UInt8)) (u : Value), (mm + i = l.length) ∧ (acc.length ≤ i) ∧ (T = acc ++ distG seen (l.drop i)) ∧ Lies G A F σ (.sl 9 1 u acc.length (acc.map strV) :: .at_ b13 (.ents (seenE seen) seen.length) :: .at_ b9 lp10 :: .at_ d8 (.defs true) :: .at_ b7 (.row ⟨[u], 22, false⟩) :: .at_ b6 (.row ⟨[v1], 22, false⟩) :: .at_ b4 (.row ⟨[cv1], 50, false⟩) :: .at_ b3 (.row ⟨[.func (.func 86) #[] #[]], 47, false⟩) :: (L)) ∧ ta 0 = .func (.yield b9) #[] #[] ∧ ta 3 = .map (some b13) ∧ ta 7 = v1 ∧ ta 8 = .int .i64 (l.length : Int) ∧ ta 9 = .int .i64 ((i : Nat) : Int)) l.length ?_ ?_
   ·exact ⟨0, [], [], .slice none 0 0, (by omega), (Nat.zero_le _), hT0, H, rfl, rfl, rfl, rfl, rfl⟩
   clear H
   rintro mm ta _ ⟨i, seen, acc, u, hm, hac, hT, H, e0, e3, e7, e8, e9⟩
   refine W.rst [(0, .func (.yield b9) #[] #[]), (3, .map (some b13)), (7, v1), (8, .int .i64 (l.length : Int)), (9, .int .i64 ((i : Nat) : Int))] ⟨e0, e3, e7, e8, e9, trivial⟩ fun TA => ?_
   clear e0 e3 e7 e8 e9
   refine W.seq (W.region ?_)
   refine RW.v ?_
   refine RW.nil ?_
   refine W.rg [(0, .func (.yield b9) #[] #[]), (3, .map (some b13)), (7, v1), (8, .int .i64 (l.length : Int)), (9, .int .i64 ((i : Nat) : Int)), (10, .bool (decide (((i : Nat) : Int) < (l.length : Int))))] fun TA => ?_
   refine W.seq ?_
   refine W.cond rfl (fun hc14 => ?_) (fun hc14 => ?_)
   ·have hc14b := hc14
    have hc14 := of_decide_eq_true hc14
    have hil : i < l.length := by omega
    refine W.skip ?_
    refine W.seq ?_
    refine W.block ?_
    refine W.seq (W.region ?_)
    refine RW.idxF (h1.le le0) (by kernel_rfl) (by kernel_rfl) rfl Tryd.underlying22 (by kernel_rfl) rfl rfl ⟨by omega, by omega⟩ (by kernel_rfl) ?_
    intro b15 q16 r17 hF18 hE19
    rw [strs_at (l := l) (j := i) (i := ((i : Nat) : Int)) (by omega) (by omega)] at hE19
    refine RW.loads 1 (by kernel_rfl) (by kernel_rfl) rfl rfl (H.old _ _ hF18) hE19 rfl (by kernel_rfl) ?_
    refine RW.v ?_
    refine RW.nil ?_
    refine W.rg [(0, .func (.yield b9) #[] #[]), (3, .map (some b13)), (5, .string ⟨(l.getD i []).toArray⟩), (7, v1), (8, .int .i64 (l.length : Int)), (9, .int .i64 ((i : Nat) : Int))] fun TA => ?_
    refine W.seq ?_
    refine W.seq (W.region ?_)
    iterate 2 refine RW.v ?_
    refine RW.lkL H 1 (.bool (decide ((l.getD i []) ∈ seen))) ?_ (hv := look_seen rfl rfl (by kernel_rfl))
    refine RW.v ?_
    refine RW.both _ _ rfl rfl rfl (fun hc20 => ?_) (fun hc20 => ?_)
    ·have hc20b := hc20
     have hc20 := of_decide_eq_true hc20
     have hskip : (l.getD i []) ∈ seen ∨ validD (l.getD i []) = false := .inl hc20
     refine RW.skip (by rfl) (by kernel_rfl) ?_
     refine RW.skip (by rfl) (by kernel_rfl) ?_
     refine RW.skip (by rfl) (by kernel_rfl) ?_
     refine RW.v ?_
     refine RW.nil ?_
     refine W.c1 ?_
     refine W.exit _ ?_
     refine seqQ_exit ?_
     refine blkQ_here ?_
     refine W.region ?_
     refine RW.valE (v' := .int .i64 (((i : Nat) : Int) + 1)) (by kernel_rfl) (by kernel_rfl) rfl (congrArg (Value.int .i64) (wrap_in (by omega) (by omega))) (by kernel_rfl) ?_
     refine RW.v ?_
     refine RW.nil ?_
     exact ⟨rfl, mm - 1, by omega, i + 1, seen, acc, u, (by omega), (by omega), (by rw [hT, dist_skip hil hskip]), H, rfl, rfl, rfl, rfl, rfl⟩
    ·have hc20b := hc20
     have hc20 := of_decide_eq_false hc20
     have hnew := hc20
     refine RW.val (by rfl) (by kernel_rfl) rfl (by kernel_rfl) ?_
     refine RW.cl (hw := by rfl) ?_
     refine ⟨_, _, (s_valid (hU.le (fun b y h => H.old _ _ (le0 b y h))) h16 (hsm _ (mem_of (by omega)))), ?_⟩
     refine RW.val (by rfl) (by kernel_rfl) rfl (by kernel_rfl) ?_
     refine RW.v ?_
     refine RW.nil ?_
     refine W.rg [(0, .func (.yield b9) #[] #[]), (3, .map (some b13)), (5, .string ⟨(l.getD i []).toArray⟩), (7, v1), (8, .int .i64 (l.length : Int)), (9, .int .i64 ((i : Nat) : Int)), (20, .bool (!(validD (l.getD i []))))] fun TA => ?_
     refine W.cond rfl (fun hc21 => ?_) (fun hc21 => ?_)
     ·have hc21b := hc21
      have hval : validD (l.getD i []) = false := by simpa using hc21b
      have hskip : (l.getD i []) ∈ seen ∨ validD (l.getD i []) = false := .inr hval
      refine W.exit _ ?_
      refine seqQ_exit ?_
      refine blkQ_here ?_
      refine W.region ?_
      refine RW.valE (v' := .int .i64 (((i : Nat) : Int) + 1)) (by kernel_rfl) (by kernel_rfl) rfl (congrArg (Value.int .i64) (wrap_in (by omega) (by omega))) (by kernel_rfl) ?_
      refine RW.v ?_
      refine RW.nil ?_
      exact ⟨rfl, mm - 1, by omega, i + 1, seen, acc, u, (by omega), (by omega), (by rw [hT, dist_skip hil hskip]), H, rfl, rfl, rfl, rfl, rfl⟩
     ·have hc21b := hc21
      have hval : validD (l.getD i []) = true := by simpa using hc21b
      refine W.skip ?_
      refine W.seq (W.region ?_)
      iterate 2 refine RW.v ?_
      refine RW.upL H 1 (seenE (seen ++ [(l.getD i [])])) (seen.length + 1) ?_ (hv := upd_seen rfl rfl hnew)
      clear H; intro _ _ H; dsimp only [setL, delL] at H
      refine RW.nil ?_
      refine W.rg [(0, .func (.yield b9) #[] #[]), (3, .map (some b13)), (5, .string ⟨(l.getD i []).toArray⟩), (7, v1), (8, .int .i64 (l.length : Int)), (9, .int .i64 ((i : Nat) : Int))] fun TA => ?_
      refine W.seq (W.region ?_)
      iterate 2 refine RW.v ?_
      refine RW.yieldL H 2 rfl hl11 (by kernel_rfl) (by kernel_rfl) rfl rfl rfl rfl rfl (by kernel_rfl) ?_
      refine W.rg [(2, .pointer (some ⟨b7, 0, none⟩)), (6, .func (.func 95) #[] #[.pointer (some ⟨b6, 0, none⟩)]), (7, .string ⟨(l.getD i []).toArray⟩)] fun TA => ?_
      refine W.region ?_
      refine RW.v ?_
      refine RW.nil ?_
      refine ⟨rfl, _, _, _, 2, H, rfl, ?_⟩
      clear H; intro _ lq22 hq23 H
      dsimp only [setL, delL] at H
      refine W.rg [(2, .pointer (some ⟨b7, 0, none⟩)), (5, .string ⟨(l.getD i []).toArray⟩), (6, .func (.func 95) #[] #[.pointer (some ⟨b6, 0, none⟩)]), (7, .string ⟨(l.getD i []).toArray⟩)] fun TA => ?_
      refine W.block ?_
      refine W.region ?_
      refine RW.ld H 4 1 ?_
      refine RW.v ?_
      refine RW.mkL H (x := .row ⟨[.string ⟨(l.getD i []).toArray⟩], 9, false⟩) (fm := fun b => .slice (some ⟨b, 0, none⟩) 1 1) (by kernel_rfl) (by kernel_rfl) (by kernel_rfl) (by kernel_rfl) ?_
      clear H; intro _ b24 _ H
      refine RW.appL H 1 0 (n := 1) (e2 := 9) (by kernel_rfl) (by kernel_rfl) rfl rfl rfl rfl rfl rfl rfl rfl (by kernel_rfl) (by kernel_rfl) (by kernel_rfl) (by decide) (by decide) rfl rfl (by omega) (by kernel_rfl) ?_
      clear H; intro _ v25 _ H
      dsimp only [setL, delL] at H
      refine RW.stL H 4 (vs := [v25]) (cs' := [v25]) (by kernel_rfl) (by kernel_rfl) rfl rfl rfl (H.sl 0 rfl).one (gr_all (H.sl 0 rfl)) (by kernel_rfl) (Nat.le_of_ble_eq_true rfl) rfl (by kernel_rfl) ?_
      clear H; intro _ _ H; dsimp only [setL, delL] at H
      refine RW.nil ?_
      refine blkQ_normal ?_
      refine ⟨_, _, _, 2, true, .ready, none, H, rfl, rfl, ?_⟩
      clear H; intro _ lr26 _ hr27 H
      dsimp only [setL, delL] at H
      refine RW.v ?_
      refine RW.nil ?_
      refine W.c0 ?_
      refine W.skip ?_
      refine blkQ_normal ?_
      refine W.region ?_
      refine RW.valE (v' := .int .i64 (((i : Nat) : Int) + 1)) (by kernel_rfl) (by kernel_rfl) rfl (congrArg (Value.int .i64) (wrap_in (by omega) (by omega))) (by kernel_rfl) ?_
      refine RW.v ?_
      refine RW.nil ?_
      rw [show lr26 = lp10 from hr27.trans hl11.symm] at H
      rw [show seen.length + 1 = (seen ++ [(l.getD i [])]).length by rw [List.length_append]; rfl] at H
      rw [acc_snoc (x := (l.getD i []))] at H
      rw [show acc.length + 1 = (acc ++ [(l.getD i [])]).length by rw [List.length_append]; rfl] at H
      exact ⟨rfl, mm - 1, by omega, i + 1, (seen ++ [(l.getD i [])]), (acc ++ [(l.getD i [])]), v25, (by omega), (by rw [List.length_append, List.length_singleton]; omega), (by rw [hT, dist_take hil hnew hval, List.append_assoc]; rfl), H, rfl, rfl, rfl, rfl, rfl⟩
   ·have hc14b := hc14
    have hc14 := of_decide_eq_false hc14
    refine W.exit _ ?_
    refine seqQ_exit ?_
    refine rndQ_exit ?_
    have hR : T = acc := by rw [hT, List.drop_eq_nil_of_le (by omega)]; exact List.append_nil _
    refine blkQ_here ?_
    refine endG (by rfl) (by exact rfl) ?_
    refine ⟨_, _, _, 2, _, _, _, _, H, rfl, hl11, rfl, rfl, ?_⟩
    clear H; intro _ H
    dsimp only [setL, delL] at H
    refine blkQ_normal ?_
    refine W.seq (W.region ?_)
    refine RW.ld H 3 1 ?_
    refine RW.v ?_
    refine RW.nil ?_
    replace H := ((H.del 3).del 1)
    dsimp only [setL, delL] at H
    refine W.ret ?_
    refine endMark H 1 rfl fun _ H => ?_
    dsimp only [setL, delL] at H
    refine endGD0 (by rfl) (by exact resL_tmp rfl) ?_
    refine RW.v ?_
    refine RW.nil ?_
    refine W.ret ?_
    refine endG (by rfl) (by exact resL_tmp rfl) ?_
    refine RW.val (v := .func (.func 66) #[] #[.pointer (some ⟨b3, 0, none⟩), .pointer (some ⟨b4, 0, none⟩)]) (by rfl) (by kernel_rfl) (by kernel_rfl) (by kernel_rfl) ?_
    obtain ⟨F, le, hb7, H⟩ := H.freeze 3 rfl
    dsimp only [setL, delL] at H
    replace le0 := fun b y h => le b y (le0 b y h)
    replace hk2 := hk2.le le
    obtain ⟨F, le, hb8, H⟩ := H.freeze 2 rfl
    dsimp only [setL, delL] at H
    replace le0 := fun b y h => le b y (le0 b y h)
    replace hk2 := hk2.le le
    replace hb7 := le _ _ hb7
    obtain ⟨F, le, hcol, H⟩ := H.freezeSl 0 rfl
    dsimp only [setL, delL] at H
    replace le0 := fun b y h => le b y (le0 b y h)
    replace hk2 := hk2.le le
    replace hb7 := le _ _ hb7
    replace hb8 := le _ _ hb8
    rw [← hR] at hcol
    have hmem : ∀ x ∈ T, x ∈ l := fun x hx => (distM_mem.1 (by rw [← hTd]; exact hx)).1
    have hTl : T.length ≤ 1000000 := by rw [hR]; omega
    refine RW.cl (hw := by rfl) ?_
    refine ((ct_test (fold := false) hcol hTl (fun x hx => hsm x (hmem x hx)) hb7 hb8 hk2.slf (runes_in s) H).mono ?_)
    clear H
    rintro _ _ ⟨rfl, H⟩
    iterate 2 refine RW.v ?_
    refine RW.nil ?_
    replace H := (H.del 0)
    dsimp only [setL, delL] at H
    refine W.ret ?_
    refine endG (by rfl) (by exact resL_tmp rfl) ?_
    have et : testC false l s = (T.any fun c => eqC false (runes c) (runes s)) := by unfold testC; rw [hvs, Bool.true_and, ← hTd]
    rw [et]
    exact ⟨rfl, (H).back le0⟩
  ·have hc5b := hc5
   have hvs := hc5b
   refine RW.skip (by rfl) (by kernel_rfl) ?_
   refine RW.skip (by rfl) (by kernel_rfl) ?_
   refine RW.skip (by rfl) (by kernel_rfl) ?_
   refine RW.skip (by rfl) (by kernel_rfl) ?_
   refine RW.skip (by rfl) (by kernel_rfl) ?_
   iterate 2 refine RW.v ?_
   refine RW.nil ?_
   replace H := ((H.del 1).del 0)
   dsimp only [setL, delL] at H
   refine W.ret ?_
   refine endG (by rfl) (by exact resL_tmp rfl) ?_
   have et : testC false l s = false := by unfold testC; rw [hvs, Bool.false_and]
   rw [et]
   exact ⟨rfl, (H).back le0⟩
set_option maxHeartbeats 4000000 in
theorem Try_wc (hU : U8F F) (h16 : 16 ≤ G) (h1 : SlF F 1 v1 l.length (l.map strV)) (hl : l.length ≤ 1000000) (hsm : ∀ s ∈ l, s.length ≤ 1000000) (hs : s.length ≤ 1000000) (H : Lies G A F σ L) : WC G Tryd.prog 20 #[v1, .string ⟨s.toArray⟩, .bool fold] σ fun v σ' => v = .tuple #[.string ⟨(tryC fold l s).toArray⟩, .int .i64 (statusC fold (allC fold l s) s)] ∧ Lies G A F σ' L := by
 obtain ⟨F0, hF⟩ : ∃ F0, F0 = F := ⟨_, rfl⟩
 have le0 : Le F0 F := fun b y h => hF ▸ h
 rw [← hF] at h1 hU ⊢
 refine WC.enter (fn := Tryd.f20) Tryd.func20 rfl ?_
 refine W.rg [(0, v1), (1, .string ⟨s.toArray⟩), (2, .bool fold)] fun TA => ?_
 refine W.seq (W.region ?_)
 iterate 2 refine RW.v ?_
 refine RW.nil ?_
 refine W.rg [(0, v1), (1, .string ⟨s.toArray⟩), (2, .bool fold)] fun TA => ?_
 refine W.seq (W.region ?_)
 iterate 3 refine RW.v ?_
 refine RW.cl ?_
 refine ((All_wc (fold := fold) (hU.le le0) h16 (h1.le le0) hl hsm hs H).mono ?_)
 clear H
 rintro m _ ⟨F, le, hm, H⟩
 replace le0 := fun b y h => le b y (le0 b y h)
 have hml := allC_len (fold := fold) (l := l) (s := s)
 have hmm : ∀ x ∈ allC fold l s, x.length ≤ 1000000 := fun x hx => hsm x (allC_good.1 x hx).2
 refine RW.v ?_
 refine RW.nil ?_
 refine W.rg [(1, .string ⟨s.toArray⟩), (2, .bool fold), (8, m)] fun TA => ?_
 refine W.seq (W.region ?_)
 iterate 2 refine RW.v ?_
 refine RW.cl ?_
 refine ((Common_wc (fold := fold) (hU.le le0) h16 hm (by omega) hmm H).mono ?_)
 clear H
 rintro _ _ ⟨rfl, H⟩
 iterate 3 refine RW.v ?_
 refine RW.cl ?_
 refine ((status_wc (fold := fold) hm (by omega) hmm hs H).mono ?_)
 clear H
 rintro _ _ ⟨rfl, H⟩
 iterate 2 refine RW.v ?_
 refine RW.nil ?_
 refine W.ret ?_
 refine endG (by rfl) (by exact resL_tmp (by exact resL_tmp rfl)) ?_
 exact ⟨rfl, (H).back le0⟩
theorem delim_wc {c : Int} (H : Lies G A F σ L) : WC G Tryd.prog 53 #[.int .i32 c] σ fun v σ' => v = .bool (delC c) ∧ Lies G A F σ' L := by
 refine WC.enter (fn := Tryd.f53) Tryd.func53 rfl ?_
 refine W.rg [(0, .int .i32 c)] fun TA => ?_
 refine W.seq (W.region ?_)
 refine RW.v ?_
 refine RW.nil ?_
 refine W.rg [(0, .int .i32 c)] fun TA => ?_
 refine W.seq ?_
 refine W.seq (W.region ?_)
 refine RW.v ?_
 refine RW.nil ?_
 refine W.rg [(3, .int .i32 c)] fun TA => ?_
 refine W.block ?_
 refine W.seq ?_
 refine W.seq (W.region ?_)
 iterate 2 refine RW.v ?_
 refine RW.nil ?_
 refine W.rg [(3, .int .i32 c), (4, .bool (c == 32))] fun TA => ?_
 refine W.cond rfl (fun hc1 => ?_) (fun hc1 => ?_)
 ·have hc1b := hc1
  have hc1 := eq_of_beq hc1
  refine W.skip ?_
  refine W.cond (b := true) (congrArg Value.bool hc1b) (fun _ => ?_) (fun h => by cases h)
  refine W.seq (W.region ?_)
  refine RW.v ?_
  refine RW.nil ?_
  refine W.ret ?_
  refine blkQ_ret ?_
  refine seqQ_ret ?_
  refine endG (by rfl) (by exact resL_tmp rfl) ?_
  have ed : delC c = true := decide_eq_true (by omega)
  rw [ed]
  exact ⟨rfl, H⟩
 ·have hc1b := hc1
  have hc1 := ne_of_beq_false hc1
  refine W.seq (W.region ?_)
  iterate 2 refine RW.v ?_
  refine RW.nil ?_
  refine W.rg [(3, .int .i32 c), (4, .bool (c == 45))] fun TA => ?_
  refine W.cond rfl (fun hc2 => ?_) (fun hc2 => ?_)
  ·have hc2b := hc2
   have hc2 := eq_of_beq hc2
   refine W.skip ?_
   refine W.cond (b := true) (congrArg Value.bool hc2b) (fun _ => ?_) (fun h => by cases h)
   refine W.seq (W.region ?_)
   refine RW.v ?_
   refine RW.nil ?_
   refine W.ret ?_
   refine blkQ_ret ?_
   refine seqQ_ret ?_
   refine endG (by rfl) (by exact resL_tmp rfl) ?_
   have ed : delC c = true := decide_eq_true (by omega)
   rw [ed]
   exact ⟨rfl, H⟩
  ·have hc2b := hc2
   have hc2 := ne_of_beq_false hc2
   refine W.seq (W.region ?_)
   iterate 2 refine RW.v ?_
   refine RW.nil ?_
   refine W.rg [(3, .int .i32 c), (4, .bool (c == 46))] fun TA => ?_
   refine W.cond rfl (fun hc3 => ?_) (fun hc3 => ?_)
   ·have hc3b := hc3
    have hc3 := eq_of_beq hc3
    refine W.skip ?_
    refine W.cond (b := true) (congrArg Value.bool hc3b) (fun _ => ?_) (fun h => by cases h)
    refine W.seq (W.region ?_)
    refine RW.v ?_
    refine RW.nil ?_
    refine W.ret ?_
    refine blkQ_ret ?_
    refine seqQ_ret ?_
    refine endG (by rfl) (by exact resL_tmp rfl) ?_
    have ed : delC c = true := decide_eq_true (by omega)
    rw [ed]
    exact ⟨rfl, H⟩
   ·have hc3b := hc3
    have hc3 := ne_of_beq_false hc3
    refine W.seq (W.region ?_)
    iterate 2 refine RW.v ?_
    refine RW.nil ?_
    refine W.rg [(3, .int .i32 c), (4, .bool (c == 47))] fun TA => ?_
    refine W.cond rfl (fun hc4 => ?_) (fun hc4 => ?_)
    ·have hc4b := hc4
     have hc4 := eq_of_beq hc4
     refine W.skip ?_
     refine W.cond (b := true) (congrArg Value.bool hc4b) (fun _ => ?_) (fun h => by cases h)
     refine W.seq (W.region ?_)
     refine RW.v ?_
     refine RW.nil ?_
     refine W.ret ?_
     refine blkQ_ret ?_
     refine seqQ_ret ?_
     refine endG (by rfl) (by exact resL_tmp rfl) ?_
     have ed : delC c = true := decide_eq_true (by omega)
     rw [ed]
     exact ⟨rfl, H⟩
    ·have hc4b := hc4
     have hc4 := ne_of_beq_false hc4
     refine W.seq (W.region ?_)
     iterate 2 refine RW.v ?_
     refine RW.nil ?_
     refine W.rg [(3, .int .i32 c), (4, .bool (c == 58))] fun TA => ?_
     refine W.cond rfl (fun hc5 => ?_) (fun hc5 => ?_)
     ·have hc5b := hc5
      have hc5 := eq_of_beq hc5
      refine W.skip ?_
      refine W.cond (b := true) (congrArg Value.bool hc5b) (fun _ => ?_) (fun h => by cases h)
      refine W.seq (W.region ?_)
      refine RW.v ?_
      refine RW.nil ?_
      refine W.ret ?_
      refine blkQ_ret ?_
      refine seqQ_ret ?_
      refine endG (by rfl) (by exact resL_tmp rfl) ?_
      have ed : delC c = true := decide_eq_true (by omega)
      rw [ed]
      exact ⟨rfl, H⟩
     ·have hc5b := hc5
      have hc5 := ne_of_beq_false hc5
      refine W.region ?_
      iterate 2 refine RW.v ?_
      refine RW.nil ?_
      refine W.rg [(4, .bool (c == 95))] fun TA => ?_
      refine W.cond rfl (fun hc6 => ?_) (fun hc6 => ?_)
      ·have hc6b := hc6
       have hc6 := eq_of_beq hc6
       refine W.seq (W.region ?_)
       refine RW.v ?_
       refine RW.nil ?_
       refine W.ret ?_
       refine blkQ_ret ?_
       refine seqQ_ret ?_
       refine endG (by rfl) (by exact resL_tmp rfl) ?_
       have ed : delC c = true := decide_eq_true (by omega)
       rw [ed]
       exact ⟨rfl, H⟩
      ·have hc6b := hc6
       have hc6 := ne_of_beq_false hc6
       refine W.skip ?_
       refine blkQ_normal ?_
       refine W.seq (W.region ?_)
       refine RW.v ?_
       refine RW.nil ?_
       refine W.ret ?_
       refine endG (by rfl) (by exact resL_tmp rfl) ?_
       have ed : delC c = false := decide_eq_false (by omega)
       rw [ed]
       exact ⟨rfl, H⟩
set_option maxHeartbeats 8000000 in
theorem Step_wc (hU : U8F F) (h16 : 16 ≤ G) (h1 : SlF F 1 v1 l.length (l.map strV)) (hl : l.length ≤ 1000000) (hsm : ∀ s ∈ l, s.length ≤ 1000000) (hs : s.length ≤ 1000000) (H : Lies G A F σ L) : WC G Tryd.prog 22 #[v1, .string ⟨s.toArray⟩, .bool fold] σ fun v σ' => v = .tuple #[.string ⟨(stepC fold l s).toArray⟩, .int .i64 (statusC fold (allC fold l s) s)] ∧ Lies G A F σ' L := by
 obtain ⟨F0, hF⟩ : ∃ F0, F0 = F := ⟨_, rfl⟩
 have le0 : Le F0 F := fun b y h => hF ▸ h
 rw [← hF] at h1 hU ⊢
 refine WC.enter (fn := Tryd.f22) Tryd.func22 rfl ?_
 refine W.rg [(0, v1), (1, .string ⟨s.toArray⟩), (2, .bool fold)] fun TA => ?_
 refine W.seq (W.region ?_)
 iterate 2 refine RW.v ?_
 refine RW.nil ?_
 refine W.rg [(0, v1), (1, .string ⟨s.toArray⟩), (2, .bool fold)] fun TA => ?_
 refine W.seq (W.region ?_)
 iterate 3 refine RW.v ?_
 refine RW.cl ?_
 refine ((Try_wc (fold := fold) (hU.le le0) h16 (h1.le le0) hl hsm hs H).mono ?_)
 clear H
 rintro _ _ ⟨rfl, H⟩
 iterate 5 refine RW.v ?_
 refine RW.nil ?_
 refine W.rg [(1, .string ⟨s.toArray⟩), (8, .string ⟨(tryC fold l s).toArray⟩), (9, .int .i64 (statusC fold (allC fold l s) s))] fun TA => ?_
 refine W.seq (W.region ?_)
 refine RW.v ?_
 refine RW.convR H (tryC_len hsm) (by kernel_rfl) (by kernel_rfl) rfl rfl rfl rfl rfl (by kernel_rfl) ?_
 clear H; intro _ cv H
 obtain ⟨F, le, hcv, H⟩ := H.freezeK 0 rfl
 dsimp only [setL, delL] at H
 replace le0 := fun b y h => le b y (le0 b y h)
 obtain ⟨C, hC⟩ : ∃ C, C = runes (tryC fold l s) := ⟨_, rfl⟩
 rw [← hC] at hcv
 have hcl : C.length ≤ 1000000 := by rw [hC]; exact Nat.le_trans (runes_le _) (tryC_len hsm)
 refine RW.v ?_
 refine RW.nil ?_
 refine W.rg [(1, .string ⟨s.toArray⟩), (8, .string ⟨(tryC fold l s).toArray⟩), (9, .int .i64 (statusC fold (allC fold l s) s)), (10, cv)] fun TA => ?_
 refine W.seq ?_
 refine W.seq (W.region ?_)
 refine RW.v ?_
 refine RW.cl ?_
 refine ⟨_, _, (s_count hs), ?_⟩
 refine RW.v ?_
 refine RW.nil ?_
 refine W.rg [(8, .string ⟨(tryC fold l s).toArray⟩), (9, .int .i64 (statusC fold (allC fold l s) s)), (10, cv), (11, .int .i64 (((runes s).length : Nat) : Int))] fun TA => ?_
 refine W.block ?_
 refine W.loop (fun mm ta σ => ∃ (i : Nat), (C.length ≤ mm + i) ∧ (cutG C C.length (runes s).length = cutG C mm i) ∧ Lies G A F σ ((L)) ∧ ta 8 = .string ⟨(tryC fold l s).toArray⟩ ∧ ta 9 = .int .i64 (statusC fold (allC fold l s) s) ∧ ta 10 = cv ∧ ta 11 = .int .i64 ((i : Nat) : Int)) C.length ?_ ?_
 ·exact ⟨(runes s).length, (by omega), rfl, H, rfl, rfl, rfl, rfl⟩
 clear H
 rintro mm ta _ ⟨i, hm, hT, H, e8, e9, e10, e11⟩
 refine W.rst [(8, .string ⟨(tryC fold l s).toArray⟩), (9, .int .i64 (statusC fold (allC fold l s) s)), (10, cv), (11, .int .i64 ((i : Nat) : Int))] ⟨e8, e9, e10, e11, trivial⟩ fun TA => ?_
 clear e8 e9 e10 e11
 refine W.seq ?_
 refine W.seq (W.region ?_)
 iterate 2 refine RW.v ?_
 refine RW.len (by kernel_rfl) (by kernel_rfl) rfl rfl rfl rfl (hcv.slf.len (e := 21) (by kernel_rfl)) (by kernel_rfl) ?_
 refine RW.v ?_
 refine RW.nil ?_
 refine W.rg [(8, .string ⟨(tryC fold l s).toArray⟩), (9, .int .i64 (statusC fold (allC fold l s) s)), (10, cv), (11, .int .i64 ((i : Nat) : Int)), (26, .bool (decide (((i : Nat) : Int) < (C.length : Int))))] fun TA => ?_
 refine W.cond rfl (fun hc1 => ?_) (fun hc1 => ?_)
 ·have hc1b := hc1
  have hc1 := of_decide_eq_true hc1
  have hil : i < C.length := by omega
  refine W.skip ?_
  refine W.seq ?_
  refine W.block ?_
  refine W.seq (W.region ?_)
  iterate 2 refine RW.v ?_
  refine RW.idxF hcv.slf (by kernel_rfl) (by kernel_rfl) rfl Tryd.underlying50 (by kernel_rfl) rfl rfl ⟨by omega, by omega⟩ (by kernel_rfl) ?_
  intro b2 q3 r4 hF5 hE6
  rw [runs_at (l := C) (j := i) (i := ((i : Nat) : Int)) (by omega) (by omega)] at hE6
  refine RW.loads 1 (by kernel_rfl) (by kernel_rfl) rfl rfl (H.old _ _ hF5) hE6 rfl (by kernel_rfl) ?_
  refine RW.cl ?_
  refine ((delim_wc (c := C.getD i 0) H).mono ?_)
  clear H
  rintro _ _ ⟨rfl, H⟩
  refine RW.nil ?_
  refine W.rg [(8, .string ⟨(tryC fold l s).toArray⟩), (9, .int .i64 (statusC fold (allC fold l s) s)), (10, cv), (11, .int .i64 ((i : Nat) : Int)), (33, .bool (delC (C.getD i 0)))] fun TA => ?_
  refine W.cond rfl (fun hc7 => ?_) (fun hc7 => ?_)
  ·have hc7b := hc7
   refine W.seq (W.region ?_)
   iterate 2 refine RW.v ?_
   refine RW.valE (v' := .int .i64 (((i : Nat) : Int) + 1)) (by kernel_rfl) (by kernel_rfl) rfl (congrArg (Value.int .i64) (wrap_in (by omega) (by omega))) (by kernel_rfl) ?_
   obtain ⟨sv, hsv, hks⟩ := slk_cut (P := Tryd.prog) (t := 50) (e := 21) (i := i + 1) hcv (by kernel_rfl) (by kernel_rfl) (by omega)
   have hks2 : SlF F 1 sv (C.take (i + 1)).length ((C.take (i + 1)).map runeV) := by rw [Nat.mul_one] at hks; rw [List.length_take, Nat.min_eq_left (by omega), List.map_take]; exact hks.slf
   rw [show ((i + 1 : Nat) : Int) = ((i : Nat) : Int) + 1 from by omega] at hsv
   refine RW.vop (v := sv) (by kernel_rfl) (by kernel_rfl) (vop_slice rfl hsv) (by kernel_rfl) ?_
   have hcb : ∀ c ∈ C, chB c = true := by rw [hC]; exact tryC_chars
   have hz : C.take (i + 1) ≠ [] := List.length_pos_iff.1 (by rw [List.length_take]; omega)
   refine RW.backR H hks2 (fun c h => hcb c (List.mem_of_mem_take h)) hz (by kernel_rfl) (by kernel_rfl) rfl rfl rfl rfl rfl (by kernel_rfl) ?_
   intro b8 q9 r10 hF11 hE12
   iterate 3 refine RW.v ?_
   refine RW.nil ?_
   refine W.ret ?_
   refine blkQ_ret ?_
   refine seqQ_ret ?_
   refine rndQ_ret ?_
   refine blkQ_ret ?_
   refine seqQ_ret ?_
   refine endG (by rfl) (by exact resL_tmp (by exact resL_tmp rfl)) ?_
   have ec : cutG C C.length (runes s).length = some (i + 1) := by rw [hT, cutG_stop hil hc7b (by omega)]
   have es : stepC fold l s = encA (C.take (i + 1)) := by unfold stepC; rw [← hC, ec]
   rw [es]
   exact ⟨rfl, (H).back le0⟩
  ·have hc7b := hc7
   refine W.skip ?_
   refine blkQ_normal ?_
   refine W.region ?_
   refine RW.v ?_
   refine RW.valE (v' := .int .i64 (((i : Nat) : Int) + 1)) (by kernel_rfl) (by kernel_rfl) rfl (congrArg (Value.int .i64) (wrap_in (by omega) (by omega))) (by kernel_rfl) ?_
   refine RW.v ?_
   refine RW.nil ?_
   exact ⟨rfl, mm - 1, by omega, i + 1, (by omega), (by rw [hT, cutG_go hil hc7b]), H, rfl, rfl, rfl, rfl⟩
 ·have hc1b := hc1
  have hc1 := of_decide_eq_false hc1
  refine W.exit _ ?_
  refine seqQ_exit ?_
  refine rndQ_exit ?_
  refine blkQ_here ?_
  refine W.seq (W.region ?_)
  iterate 4 refine RW.v ?_
  refine RW.nil ?_
  refine W.ret ?_
  refine endG (by rfl) (by exact resL_tmp (by exact resL_tmp rfl)) ?_
  have ec : cutG C C.length (runes s).length = none := by rw [hT, cutG_end (by omega)]
  have es : stepC fold l s = (tryC fold l s) := by unfold stepC; rw [← hC, ec]
  rw [es]
  exact ⟨rfl, (H).back le0⟩
end
end Go.Proofs.YtjcmdifpkafdkaaDoor
