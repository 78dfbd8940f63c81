/-
 The reference: parts and words. Conditions: none.
 TryPartial. Conditions: the tables of unicode/utf8 lie.
-/
import Derived.Test.YtjcmdifpkafdkaaDoorC7
import Derived.Test.YtjcmdifpkafdkaaDoorC5
import Derived.Test.YtjcmdifpkafdkaaDoorL3
namespace Go.Proofs.YtjcmdifpkafdkaaDoor
open Go.Lib
set_option maxRecDepth 100000
open Go.RowKit
theorem rot3 (a b c : Ent) (L : List Ent) : (a :: b :: c :: L).Perm (b :: c :: a :: L) := (List.Perm.swap b a (c :: L)).trans ((List.Perm.swap c a L).cons b)
theorem partsG_short : ∀ (s w : List Int), ∀ z ∈ (partsG w s).1, z.length ≤ w.length + s.length
 | [], w, z, h => by rw [List.mem_singleton.1 h]; exact Nat.le_add_right _ _
 | x :: s, w, z, h => by
  unfold partsG at h
  split at h
  ·rcases List.mem_cons.1 h with rfl | h
   ·exact Nat.le_add_right _ _
   ·have := partsG_short s [] z h
    rw [List.length_nil] at this
    rw [List.length_cons]
    omega
  ·have := partsG_short s _ z h
   rw [List.length_append, List.length_singleton] at this
   rw [List.length_cons]
   omega
section
variable {G : Nat} {A : Abs} {σ : Mem} {F : Nat → Option Blk2} {L : List Ent} {fold : Bool} {xs ys : List Int} {v1 v2 : Value}
set_option maxHeartbeats 8000000 in
theorem r_parts (h1 : SlK F 1 v1 xs.length (xs.map (Value.int .i64))) (hl : xs.length ≤ 100000) (H : Lies G A F σ L) : WC G Tryd.prog 47 #[v1] σ fun v σ' => ∃ F' u um cs, Le F F' ∧ v = .tuple #[u, um] ∧ SlK F' 1 u (partsC xs).1.length cs ∧ AllI F' cs (partsC xs).1 ∧ SlK F' 1 um (partsC xs).2.length ((partsC xs).2.map (Value.int .i64)) ∧ Lies G A F' σ' L := by
 obtain ⟨F0, hF⟩ : ∃ F0, F0 = F := ⟨_, rfl⟩
 have le0 : Le F0 F := fun b y h => hF ▸ h
 rw [← hF] at h1 ⊢
 refine WC.enter (fn := Tryd.f47) Tryd.func47 rfl ?_
 refine W.rg [(0, v1)] fun TA => ?_
 refine W.seq (W.region ?_)
 iterate 2 refine RW.v ?_
 refine RW.nil ?_
 refine W.rg [(0, v1)] fun TA => ?_
 refine W.seq (W.region ?_)
 refine RW.v ?_
 refine RW.nil ?_
 refine W.rg [(0, v1), (4, .slice none 0 0)] fun TA => ?_
 refine W.seq (W.region ?_)
 iterate 2 refine RW.v ?_
 refine RW.nil ?_
 refine W.rg [(0, v1), (4, .slice none 0 0), (5, .slice none 0 0), (6, .slice none 0 0)] fun TA => ?_
 refine W.seq ?_
 refine W.seq (W.region ?_)
 refine RW.v ?_
 refine RW.nil ?_
 refine W.rg [(0, v1), (4, .slice none 0 0), (5, .slice none 0 0), (6, .slice none 0 0), (7, .int .i64 0)] fun TA => ?_
 refine W.block ?_
 replace H := H.nilSl 3 1
 replace H := H.nilSl 3 1
 replace H := H.nilSl 59 1
 refine W.loop (fun mm ta σ => ∃ (i : Nat) (F : Nat → Option Blk2) (u : Value) (um : Value) (uw : Value) (wa : List (List Int)) (cs : List Value) (ma : List Int) (w : List Int), (mm + i = xs.length) ∧ (Le F0 F) ∧ (AllI F cs wa) ∧ (wa.length = ma.length) ∧ (ma.length ≤ i) ∧ (w.length ≤ i) ∧ (partsC xs = (wa ++ (partsG w (xs.drop i)).1, ma ++ (partsG w (xs.drop i)).2)) ∧ Lies G A F σ (.sl 59 1 u wa.length cs :: .sl 3 1 um ma.length (ma.map (Value.int .i64)) :: .sl 3 1 uw w.length (w.map (Value.int .i64)) :: (L)) ∧ ta 0 = v1 ∧ ta 4 = u ∧ ta 5 = um ∧ ta 6 = uw ∧ ta 7 = .int .i64 ((i : Nat) : Int)) xs.length ?_ ?_
 ·exact ⟨0, F, .slice none 0 0, .slice none 0 0, .slice none 0 0, [], [], [], [], (by omega), le0, AllI.nil, rfl, (Nat.zero_le _), (Nat.zero_le _), rfl, H, rfl, rfl, rfl, rfl, rfl⟩
 clear H
 rintro mm ta _ ⟨i, F, u, um, uw, wa, cs, ma, w, hm, le0, al, hwm, hmi, hwi, hT, H, e0, e4, e5, e6, e7⟩
 refine W.rst [(0, v1), (4, u), (5, um), (6, uw), (7, .int .i64 ((i : Nat) : Int))] ⟨e0, e4, e5, e6, e7, trivial⟩ fun TA => ?_
 clear e0 e4 e5 e6 e7
 refine W.seq ?_
 refine W.seq (W.region ?_)
 iterate 2 refine RW.v ?_
 refine RW.len (by kernel_rfl) (by kernel_rfl) rfl rfl rfl rfl ((h1.le le0).slf.len (e := 3) (by kernel_rfl)) (by kernel_rfl) ?_
 refine RW.v ?_
 refine RW.nil ?_
 refine W.rg [(0, v1), (4, u), (5, um), (6, uw), (7, .int .i64 ((i : Nat) : Int)), (11, .bool (decide (((i : Nat) : Int) < (xs.length : Int))))] fun TA => ?_
 refine W.cond rfl (fun hc1 => ?_) (fun hc1 => ?_)
 ·have hc1b := hc1
  have hc1 := of_decide_eq_true hc1
  have hil : i < xs.length := by omega
  refine W.skip ?_
  refine W.seq ?_
  refine W.block ?_
  refine W.seq (W.region ?_)
  iterate 2 refine RW.v ?_
  refine RW.idxF (h1.le le0).slf (by kernel_rfl) (by kernel_rfl) rfl Tryd.underlying59 (by kernel_rfl) rfl rfl ⟨by omega, by omega⟩ (by kernel_rfl) ?_
  intro b2 q3 r4 hF5 hE6
  rw [intz_at (l := xs) (j := i) (i := ((i : Nat) : Int)) (by omega) (by omega)] at hE6
  refine RW.loads 1 (by kernel_rfl) (by kernel_rfl) rfl rfl (H.old _ _ hF5) hE6 rfl (by kernel_rfl) ?_
  refine RW.cl ?_
  refine ((r_delim (c := (xs.getD i 0)) H).mono ?_)
  clear H
  rintro _ _ ⟨rfl, H⟩
  refine RW.nil ?_
  refine W.rg [(0, v1), (4, u), (5, um), (6, uw), (7, .int .i64 ((i : Nat) : Int)), (18, .bool (delC (xs.getD i 0)))] fun TA => ?_
  refine W.cond rfl (fun hc7 => ?_) (fun hc7 => ?_)
  ·have hc7b := hc7
   refine W.seq (W.region ?_)
   refine RW.v ?_
   obtain ⟨F, le, hw, H⟩ := H.freezeK 2 rfl
   dsimp only [setL, delL] at H
   replace le0 := fun b y h => le b y (le0 b y h)
   replace al := al.le le
   refine RW.v ?_
   refine RW.mkL H (x := .row ⟨[uw], 59, false⟩) (fm := fun b => .slice (some ⟨b, 0, none⟩) 1 1) (by kernel_rfl) (by kernel_rfl) (by rcases slf_forms hw.slf with rfl | ⟨_, rfl⟩ | ⟨_, _, _, _, _, rfl⟩ <;> kernel_rfl) (by kernel_rfl) ?_
   clear H; intro _ b8 _ H
   refine RW.appL H 1 0 (n := 1) (e2 := 59) (by kernel_rfl) (by kernel_rfl) rfl rfl rfl rfl rfl rfl rfl rfl (by kernel_rfl) (by kernel_rfl) (by kernel_rfl) (by decide) (by decide) rfl (slf_all hw.slf) (by omega) (by kernel_rfl) ?_
   clear H; intro _ v9 _ H
   dsimp only [setL, delL] at H
   refine RW.v ?_
   refine RW.nil ?_
   refine W.rg [(0, v1), (4, v9), (5, um), (7, .int .i64 ((i : Nat) : Int))] fun TA => ?_
   refine W.seq (W.region ?_)
   iterate 3 refine RW.v ?_
   refine RW.idxF (h1.le le0).slf (by kernel_rfl) (by kernel_rfl) rfl Tryd.underlying59 (by kernel_rfl) rfl rfl ⟨by omega, by omega⟩ (by kernel_rfl) ?_
   intro b10 q11 r12 hF13 hE14
   rw [intz_at (l := xs) (j := i) (i := ((i : Nat) : Int)) (by omega) (by omega)] at hE14
   refine RW.loads 1 (by kernel_rfl) (by kernel_rfl) rfl rfl (H.old _ _ hF13) hE14 rfl (by kernel_rfl) ?_
   refine RW.mkL H (x := .row ⟨[.int .i64 (xs.getD i 0)], 3, false⟩) (fm := fun b => .slice (some ⟨b, 0, none⟩) 1 1) (by kernel_rfl) (by kernel_rfl) (by kernel_rfl) (by kernel_rfl) ?_
   clear H; intro _ b15 _ H
   refine RW.appL H 2 0 (n := 1) (e2 := 3) (by kernel_rfl) (by kernel_rfl) rfl rfl rfl rfl rfl rfl rfl rfl (by kernel_rfl) (by kernel_rfl) (by kernel_rfl) (by decide) (by decide) rfl rfl (by omega) (by kernel_rfl) ?_
   clear H; intro _ v16 _ H
   dsimp only [setL, delL] at H
   refine RW.v ?_
   refine RW.nil ?_
   refine W.rg [(0, v1), (4, v9), (5, v16), (7, .int .i64 ((i : Nat) : Int))] fun TA => ?_
   refine W.region ?_
   refine RW.v ?_
   refine RW.nil ?_
   refine blkQ_normal ?_
   refine W.rg [(0, v1), (4, v9), (5, v16), (6, .slice none 0 0), (7, .int .i64 ((i : Nat) : Int))] fun TA => ?_
   refine W.region ?_
   refine RW.v ?_
   refine RW.valE (v' := .int .i64 (((i : Nat) : Int) + 1)) (by kernel_rfl) (by kernel_rfl) rfl (congrArg (Value.int .i64) (wrap_in (by omega) (by omega))) (by kernel_rfl) ?_
   refine RW.v ?_
   refine RW.nil ?_
   rw [show wa.length + 1 = (wa ++ [w]).length by rw [List.length_append]; rfl, show ma.length + 1 = (ma ++ [(xs.getD i 0)]).length by rw [List.length_append]; rfl, intz_snoc] at H
   replace H := H.nilSl 3 1
   replace H := H.perm (rot3 _ _ _ _)
   exact ⟨rfl, mm - 1, by omega, i + 1, F, v9, v16, .slice none 0 0, (wa ++ [w]), (cs ++ [uw]), (ma ++ [(xs.getD i 0)]), [], (by omega), le0, (al.snoc hw), (by rw [List.length_append, List.length_append]; show wa.length + 1 = ma.length + 1; omega), (by rw [List.length_append, List.length_singleton]; omega), (Nat.zero_le _), (by rw [hT, parts_del hil hc7b, List.append_assoc, List.append_assoc]; rfl), H, rfl, rfl, rfl, rfl, rfl⟩
  ·have hc7b := hc7
   refine W.region ?_
   iterate 3 refine RW.v ?_
   refine RW.idxF (h1.le le0).slf (by kernel_rfl) (by kernel_rfl) rfl Tryd.underlying59 (by kernel_rfl) rfl rfl ⟨by omega, by omega⟩ (by kernel_rfl) ?_
   intro b17 q18 r19 hF20 hE21
   rw [intz_at (l := xs) (j := i) (i := ((i : Nat) : Int)) (by omega) (by omega)] at hE21
   refine RW.loads 1 (by kernel_rfl) (by kernel_rfl) rfl rfl (H.old _ _ hF20) hE21 rfl (by kernel_rfl) ?_
   refine RW.mkL H (x := .row ⟨[.int .i64 (xs.getD i 0)], 3, false⟩) (fm := fun b => .slice (some ⟨b, 0, none⟩) 1 1) (by kernel_rfl) (by kernel_rfl) (by kernel_rfl) (by kernel_rfl) ?_
   clear H; intro _ b22 _ H
   refine RW.appL H 3 0 (n := 1) (e2 := 3) (by kernel_rfl) (by kernel_rfl) rfl rfl rfl rfl rfl rfl rfl rfl (by kernel_rfl) (by kernel_rfl) (by kernel_rfl) (by decide) (by decide) rfl rfl (by omega) (by kernel_rfl) ?_
   clear H; intro _ v23 _ H
   dsimp only [setL, delL] at H
   refine RW.v ?_
   refine RW.nil ?_
   refine blkQ_normal ?_
   refine W.rg [(0, v1), (4, u), (5, um), (6, v23), (7, .int .i64 ((i : Nat) : Int))] fun TA => ?_
   refine W.region ?_
   refine RW.v ?_
   refine RW.valE (v' := .int .i64 (((i : Nat) : Int) + 1)) (by kernel_rfl) (by kernel_rfl) rfl (congrArg (Value.int .i64) (wrap_in (by omega) (by omega))) (by kernel_rfl) ?_
   refine RW.v ?_
   refine RW.nil ?_
   rw [show w.length + 1 = (w ++ [(xs.getD i 0)]).length by rw [List.length_append]; rfl, intz_snoc] at H
   exact ⟨rfl, mm - 1, by omega, i + 1, F, u, um, v23, wa, cs, ma, (w ++ [(xs.getD i 0)]), (by omega), le0, al, (by omega), (by omega), (by rw [List.length_append, List.length_singleton]; omega), (by rw [hT, parts_go hil hc7b]), H, rfl, rfl, rfl, rfl, rfl⟩
 ·have hc1b := hc1
  have hc1 := of_decide_eq_false hc1
  refine W.exit _ ?_
  refine seqQ_exit ?_
  refine rndQ_exit ?_
  have hT2 : partsC xs = (wa ++ [w], ma) := by rw [hT, List.drop_eq_nil_of_le (show xs.length ≤ i by omega)]; show (wa ++ [w], ma ++ []) = _; rw [List.append_nil]
  refine blkQ_here ?_
  refine W.seq (W.region ?_)
  refine RW.v ?_
  obtain ⟨F, le, hw, H⟩ := H.freezeK 2 rfl
  dsimp only [setL, delL] at H
  replace le0 := fun b y h => le b y (le0 b y h)
  replace al := al.le le
  refine RW.v ?_
  refine RW.mkL H (x := .row ⟨[uw], 59, false⟩) (fm := fun b => .slice (some ⟨b, 0, none⟩) 1 1) (by kernel_rfl) (by kernel_rfl) (by rcases slf_forms hw.slf with rfl | ⟨_, rfl⟩ | ⟨_, _, _, _, _, rfl⟩ <;> kernel_rfl) (by kernel_rfl) ?_
  clear H; intro _ b24 _ H
  refine RW.appL H 1 0 (n := 1) (e2 := 59) (by kernel_rfl) (by kernel_rfl) rfl rfl rfl rfl rfl rfl rfl rfl (by kernel_rfl) (by kernel_rfl) (by kernel_rfl) (by decide) (by decide) rfl (slf_all hw.slf) (by omega) (by kernel_rfl) ?_
  clear H; intro _ v25 _ H
  dsimp only [setL, delL] at H
  iterate 3 refine RW.v ?_
  refine RW.nil ?_
  refine W.ret ?_
  refine endG (by rfl) (by exact resL_tmp (by exact resL_tmp rfl)) ?_
  rw [hT2]
  have al2 := al.snoc hw
  obtain ⟨F1, le1, hu, H⟩ := H.freezeK 0 rfl
  dsimp only [setL, delL] at H
  obtain ⟨F2, le2, hum, H⟩ := H.freezeK 0 rfl
  dsimp only [setL, delL] at H
  exact ⟨F2, _, _, cs ++ [uw], fun b y h => le2 b y (le1 b y (le0 b y h)), rfl, by rw [List.length_append]; exact hu.le le2, (al2.le le1).le le2, hum, H⟩
set_option maxHeartbeats 16000000 in
theorem r_words (h1 : SlK F 1 v1 xs.length (xs.map (Value.int .i64))) (h2 : SlK F 1 v2 ys.length (ys.map (Value.int .i64))) (hl : xs.length ≤ 60000) (hl2 : ys.length ≤ 60000) (H : Lies G A F σ L) : WC G Tryd.prog 49 #[v1, v2, .bool fold] σ fun v σ' => ∃ F' u cs, Le F F' ∧ v = .tuple #[u, .bool (matchC fold xs ys).isSome] ∧ SlK F' 1 u ((matchC fold xs ys).getD []).length cs ∧ AllI F' cs ((matchC fold xs ys).getD []) ∧ Lies G A F' σ' L := by
 obtain ⟨F0, hF⟩ : ∃ F0, F0 = F := ⟨_, rfl⟩
 have le0 : Le F0 F := fun b y h => hF ▸ h
 rw [← hF] at h1 h2 ⊢
 refine WC.enter (fn := Tryd.f49) Tryd.func49 rfl ?_
 refine W.rg [(0, v1), (1, v2), (2, .bool fold)] fun TA => ?_
 refine W.seq (W.region ?_)
 iterate 2 refine RW.v ?_
 refine RW.nil ?_
 refine W.rg [(0, v1), (1, v2), (2, .bool fold)] fun TA => ?_
 refine W.seq (W.region ?_)
 refine RW.v ?_
 refine RW.cl ?_
 refine ((r_parts (h2.le le0) (by omega) H).mono ?_)
 clear H
 rintro _ _ ⟨F, u, um, wsl, le, rfl, hu, al, hum, H⟩
 replace le0 := fun b y h => le b y (le0 b y h)
 obtain ⟨ws, hws⟩ : ∃ ws, ws = (partsC ys).1 := ⟨_, rfl⟩
 obtain ⟨ms, hms⟩ : ∃ ms, ms = (partsC ys).2 := ⟨_, rfl⟩
 rw [← hws] at hu al
 rw [← hms] at hum
 have hwm : ws.length = ms.length + 1 := by rw [hws, hms]; exact partsG_len _ _
 have hmr : ms.length ≤ ys.length := by rw [hms]; exact partsG_small _ _
 have hwl : ∀ w ∈ ws, w.length ≤ ys.length := fun w hw => by rw [hws] at hw; have := partsG_short _ _ w hw; rw [List.length_nil] at this; omega
 have hMe : matchC fold xs ys = matchG fold xs ws ms := by rw [hws, hms]; rfl
 iterate 5 refine RW.v ?_
 refine RW.nil ?_
 refine W.rg [(0, v1), (2, .bool fold), (8, u), (9, um)] fun TA => ?_
 refine W.seq (W.region ?_)
 refine RW.v ?_
 refine RW.nil ?_
 refine W.rg [(0, v1), (2, .bool fold), (8, u), (9, um), (10, .slice none 0 0)] fun TA => ?_
 refine W.seq (W.region ?_)
 refine RW.v ?_
 refine RW.nil ?_
 refine W.rg [(0, v1), (2, .bool fold), (8, u), (9, um), (10, .slice none 0 0), (11, .int .i64 0)] fun TA => ?_
 refine W.seq ?_
 refine W.seq (W.region ?_)
 refine RW.v ?_
 refine RW.nil ?_
 refine W.rg [(0, v1), (2, .bool fold), (8, u), (9, um), (10, .slice none 0 0), (11, .int .i64 0), (12, .int .i64 0)] fun TA => ?_
 refine W.block ?_
 replace H := H.nilSl 59 1
 refine W.loop (fun mm ta σ => ∃ (i : Nat) (p : Nat) (acc : List (List Int)) (cs : List Value) (u1 : Value), (mm + i = ws.length) ∧ (i ≤ ms.length) ∧ (p ≤ xs.length) ∧ (AllI F cs acc) ∧ (acc.length ≤ i) ∧ (matchG fold xs ws ms = (matchG fold (xs.drop p) (ws.drop i) (ms.drop i)).map (acc ++ ·)) ∧ Lies G A F σ (.sl 59 1 u1 acc.length cs :: (L)) ∧ ta 0 = v1 ∧ ta 2 = .bool fold ∧ ta 8 = u ∧ ta 9 = um ∧ ta 10 = u1 ∧ ta 11 = .int .i64 ((p : Nat) : Int) ∧ ta 12 = .int .i64 ((i : Nat) : Int)) ws.length ?_ ?_
 ·exact ⟨0, 0, [], [], .slice none 0 0, (by omega), (Nat.zero_le _), (Nat.zero_le _), AllI.nil, (Nat.zero_le _), (by rw [List.drop_zero, List.drop_zero, List.drop_zero]; cases matchG fold xs ws ms <;> rfl), H, rfl, rfl, rfl, rfl, rfl, rfl, rfl⟩
 clear H
 rintro mm ta _ ⟨i, p, acc, cs, u1, hm, hi, hp, al2, hac, hT, H, e0, e2, e8, e9, e10, e11, e12⟩
 refine W.rst [(0, v1), (2, .bool fold), (8, u), (9, um), (10, u1), (11, .int .i64 ((p : Nat) : Int)), (12, .int .i64 ((i : Nat) : Int))] ⟨e0, e2, e8, e9, e10, e11, e12, trivial⟩ fun TA => ?_
 clear e0 e2 e8 e9 e10 e11 e12
 refine W.seq ?_
 refine W.seq (W.region ?_)
 iterate 2 refine RW.v ?_
 refine RW.len (by kernel_rfl) (by kernel_rfl) rfl rfl rfl rfl (hu.slf.len (e := 59) (by kernel_rfl)) (by kernel_rfl) ?_
 refine RW.v ?_
 refine RW.nil ?_
 refine W.rg [(0, v1), (2, .bool fold), (8, u), (9, um), (10, u1), (11, .int .i64 ((p : Nat) : Int)), (12, .int .i64 ((i : Nat) : Int)), (22, .bool (decide (((i : Nat) : Int) < (ws.length : Int))))] fun TA => ?_
 refine W.cond rfl (fun hc1 => ?_) (fun hc1 => ?_)
 ·have hc1b := hc1
  have hc1 := of_decide_eq_true hc1
  have hil : i < ws.length := by omega
  refine W.skip ?_
  refine W.seq ?_
  refine W.block ?_
  refine W.seq ?_
  refine W.seq (W.region ?_)
  iterate 3 refine RW.v ?_
  refine RW.idxF hu.slf (by kernel_rfl) (by kernel_rfl) rfl Tryd.underlying58 (by kernel_rfl) rfl rfl ⟨by omega, by omega⟩ (by kernel_rfl) ?_
  intro b2 q3 r4 hF5 hE6
  rw [vals_at (l := wsl) (j := i) (i := ((i : Nat) : Int)) (by omega) (by have := al.1; omega)] at hE6
  refine RW.loads 1 (by kernel_rfl) (by kernel_rfl) rfl rfl (H.old _ _ hF5) hE6 rfl (by kernel_rfl) ?_
  iterate 2 refine RW.v ?_
  have hwd : (ws.getD i []).length ≤ ys.length := hwl _ (lst_mem (by omega))
  refine RW.cl ?_
  refine ((r_prefix (fold := fold) (p := p) (h1.le le0).slf (al.2 i (by omega)).slf (by omega) (by omega) hp H).mono ?_)
  clear H
  rintro _ _ ⟨rfl, H⟩
  refine RW.v ?_
  refine RW.nil ?_
  refine W.rg [(0, v1), (2, .bool fold), (8, u), (9, um), (10, u1), (11, .int .i64 ((p : Nat) : Int)), (12, .int .i64 ((i : Nat) : Int)), (33, .bool (!(begC fold (xs.drop p) (ws.getD i []))))] fun TA => ?_
  refine W.cond rfl (fun hc7 => ?_) (fun hc7 => ?_)
  ·have hc7b := hc7
   have hc7e : begC fold (xs.drop p) (ws.getD i []) = false := by simpa using hc7b
   refine W.seq (W.region ?_)
   iterate 2 refine RW.v ?_
   refine RW.nil ?_
   replace H := (H.del 0)
   dsimp only [setL, delL] at H
   refine W.ret ?_
   refine seqQ_ret ?_
   refine blkQ_ret ?_
   refine seqQ_ret ?_
   refine rndQ_ret ?_
   refine blkQ_ret ?_
   refine seqQ_ret ?_
   refine endG (by rfl) (by exact resL_tmp (by exact resL_tmp rfl)) ?_
   have hM : matchG fold xs ws ms = none := by rw [hT, match_no hil hc7e]; rfl
   rw [hMe, hM]
   exact ⟨F, _, [], le0, rfl, .nil, AllI.nil, H⟩
  ·have hc7b := hc7
   have hc7e : begC fold (xs.drop p) (ws.getD i []) = true := by simpa using hc7b
   refine W.skip ?_
   refine W.seq ?_
   refine W.seq (W.region ?_)
   iterate 2 refine RW.v ?_
   refine RW.len (by kernel_rfl) (by kernel_rfl) rfl rfl rfl rfl (hum.slf.len (e := 3) (by kernel_rfl)) (by kernel_rfl) ?_
   refine RW.v ?_
   refine RW.nil ?_
   refine W.rg [(0, v1), (2, .bool fold), (8, u), (9, um), (10, u1), (11, .int .i64 ((p : Nat) : Int)), (12, .int .i64 ((i : Nat) : Int)), (37, .bool (((i : Nat) : Int) == (ms.length : Int)))] fun TA => ?_
   refine W.cond rfl (fun hc8 => ?_) (fun hc8 => ?_)
   ·have hc8b := hc8
    have hc8 := eq_of_beq hc8
    refine W.exit _ ?_
    refine seqQ_exit ?_
    refine blkQ_out rfl ?_
    refine seqQ_exit ?_
    refine rndQ_exit ?_
    have hM : matchG fold xs ws ms = some (acc ++ [(xs.drop p)]) := by rw [hT, List.drop_eq_nil_of_le (show ms.length ≤ i by omega), dropD (d := []) hil, match_last hc7e]; rfl
    refine blkQ_here ?_
    refine W.seq (W.region ?_)
    iterate 3 refine RW.v ?_
    obtain ⟨wr9, hv10, hk11⟩ := slk_rest (P := Tryd.prog) (t := 59) (e := 3) (i := p) (h1.le le0) (by kernel_rfl) (by kernel_rfl) (by omega)
    have hk11b : SlK F 1 wr9 (xs.drop p).length ((xs.drop p).map (Value.int .i64)) := by rw [Nat.mul_one] at hk11; rw [List.length_drop, List.map_drop]; exact hk11
    refine RW.vop (v := wr9) (by kernel_rfl) (by kernel_rfl) (vop_slice rfl hv10) (by kernel_rfl) ?_
    refine RW.mkL H (x := .row ⟨[wr9], 59, false⟩) (fm := fun b => .slice (some ⟨b, 0, none⟩) 1 1) (by kernel_rfl) (by kernel_rfl) (by rcases slf_forms hk11b.slf with rfl | ⟨_, rfl⟩ | ⟨_, _, _, _, _, rfl⟩ <;> kernel_rfl) (by kernel_rfl) ?_
    clear H; intro _ b12 _ H
    refine RW.appL H 1 0 (n := 1) (e2 := 59) (by kernel_rfl) (by kernel_rfl) rfl rfl rfl rfl rfl rfl rfl rfl (by kernel_rfl) (by kernel_rfl) (by kernel_rfl) (by decide) (by decide) rfl (slf_all hk11b.slf) (by omega) (by kernel_rfl) ?_
    clear H; intro _ v13 _ H
    dsimp only [setL, delL] at H
    iterate 2 refine RW.v ?_
    refine RW.nil ?_
    refine W.ret ?_
    refine endG (by rfl) (by exact resL_tmp (by exact resL_tmp rfl)) ?_
    rw [hMe, hM]
    have al3 := al2.snoc hk11b
    obtain ⟨F', le, hu1, H⟩ := H.freezeK 0 rfl
    dsimp only [setL, delL] at H
    exact ⟨F', _, cs ++ [wr9], fun b y h => le b y (le0 b y h), rfl, by show SlK F' 1 _ (acc ++ [(xs.drop p)]).length _; rw [List.length_append]; exact hu1, al3.le le, H⟩
   ·have hc8b := hc8
    have hc8 := ne_of_beq_false hc8
    have him : i < ms.length := by omega
    refine W.skip ?_
    refine W.seq (W.region ?_)
    iterate 3 refine RW.v ?_
    refine RW.idxF hu.slf (by kernel_rfl) (by kernel_rfl) rfl Tryd.underlying58 (by kernel_rfl) rfl rfl ⟨by omega, by omega⟩ (by kernel_rfl) ?_
    intro b14 q15 r16 hF17 hE18
    rw [vals_at (l := wsl) (j := i) (i := ((i : Nat) : Int)) (by omega) (by have := al.1; omega)] at hE18
    refine RW.loads 1 (by kernel_rfl) (by kernel_rfl) rfl rfl (H.old _ _ hF17) hE18 rfl (by kernel_rfl) ?_
    refine RW.len (by kernel_rfl) (by kernel_rfl) rfl rfl rfl rfl ((al.2 i (by omega)).slf.len (e := 3) (by kernel_rfl)) (by kernel_rfl) ?_
    refine RW.valE (v' := .int .i64 (((p : Nat) : Int) + ((ws.getD i []).length : Int))) (by kernel_rfl) (by kernel_rfl) rfl (congrArg (Value.int .i64) (wrap_in (by omega) (by omega))) (by kernel_rfl) ?_
    refine RW.v ?_
    refine RW.nil ?_
    refine W.rg [(0, v1), (2, .bool fold), (8, u), (9, um), (10, u1), (11, .int .i64 ((p : Nat) : Int)), (12, .int .i64 ((i : Nat) : Int)), (13, .int .i64 (((p : Nat) : Int) + ((ws.getD i []).length : Int)))] fun TA => ?_
    refine W.seq ?_
    refine W.block ?_
    have hwc : (ws.getD i []).length ≤ (xs.drop p).length := beg_len hc7e
    have hCl : (xs.drop p).length = xs.length - p := List.length_drop
    refine W.loop (fun mm2 ta σ => ∃ (e : Nat), (xs.length ≤ mm2 + e) ∧ (p + e ≤ xs.length) ∧ ((ws.getD i []).length ≤ e) ∧ (endC (xs.drop p) (ws.getD i []).length = endC (xs.drop p) e) ∧ Lies G A F σ (.sl 59 1 u1 acc.length cs :: (L)) ∧ ta 0 = v1 ∧ ta 2 = .bool fold ∧ ta 8 = u ∧ ta 9 = um ∧ ta 10 = u1 ∧ ta 11 = .int .i64 ((p : Nat) : Int) ∧ ta 12 = .int .i64 ((i : Nat) : Int) ∧ ta 13 = .int .i64 (((p + e) : Nat) : Int)) xs.length ?_ ?_
    ·exact ⟨(ws.getD i []).length, (by omega), (by omega), (by omega), rfl, H, rfl, rfl, rfl, rfl, rfl, rfl, rfl, rfl⟩
    clear H
    rintro mm2 ta _ ⟨e, hm2, hec0, hwe, hE0, H, e0, e2, e8, e9, e10, e11, e12, e13⟩
    refine W.rst [(0, v1), (2, .bool fold), (8, u), (9, um), (10, u1), (11, .int .i64 ((p : Nat) : Int)), (12, .int .i64 ((i : Nat) : Int)), (13, .int .i64 (((p + e) : Nat) : Int))] ⟨e0, e2, e8, e9, e10, e11, e12, e13, trivial⟩ fun TA => ?_
    clear e0 e2 e8 e9 e10 e11 e12 e13
    refine W.seq ?_
    refine W.seq (W.region ?_)
    iterate 2 refine RW.v ?_
    refine RW.len (by kernel_rfl) (by kernel_rfl) rfl rfl rfl rfl ((h1.le le0).slf.len (e := 3) (by kernel_rfl)) (by kernel_rfl) ?_
    iterate 2 refine RW.v ?_
    refine RW.both _ _ rfl rfl rfl (fun hc19 => ?_) (fun hc19 => ?_)
    ·have hc19b := hc19
     have hc19 := of_decide_eq_true hc19
     refine RW.val (by rfl) (by kernel_rfl) rfl (by kernel_rfl) ?_
     refine RW.val (by rfl) (by kernel_rfl) rfl (by kernel_rfl) ?_
     refine RW.idxF (h1.le le0).slf (by rfl) (by kernel_rfl) rfl Tryd.underlying59 (by kernel_rfl) rfl rfl ⟨by omega, by omega⟩ (by kernel_rfl) ?_
     intro b20 q21 r22 hF23 hE24
     rw [intz_at (l := xs) (j := (p + e)) (i := (((p + e) : Nat) : Int)) (by omega) (by omega)] at hE24
     refine RW.loads 1 (by rfl) (by kernel_rfl) rfl rfl (H.old _ _ hF23) hE24 rfl (by kernel_rfl) ?_
     refine RW.cl (hw := by rfl) ?_
     refine ((r_delim (c := (xs.getD (p + e) 0)) H).mono ?_)
     clear H
     rintro _ _ ⟨rfl, H⟩
     refine RW.val (by rfl) (by kernel_rfl) rfl (by kernel_rfl) ?_
     refine RW.v ?_
     refine RW.nil ?_
     refine W.rg [(0, v1), (2, .bool fold), (8, u), (9, um), (10, u1), (11, .int .i64 ((p : Nat) : Int)), (12, .int .i64 ((i : Nat) : Int)), (13, .int .i64 (((p + e) : Nat) : Int)), (56, .bool (!(delC (xs.getD (p + e) 0))))] fun TA => ?_
     refine W.cond rfl (fun hc25 => ?_) (fun hc25 => ?_)
     ·have hc25b := hc25
      have hc25e : delC (xs.getD (p + e) 0) = false := by simpa using hc25b
      refine W.skip ?_
      refine W.block ?_
      refine W.region ?_
      refine RW.v ?_
      refine RW.valE (v' := .int .i64 ((((p + e) : Nat) : Int) + 1)) (by kernel_rfl) (by kernel_rfl) rfl (congrArg (Value.int .i64) (wrap_in (by omega) (by omega))) (by kernel_rfl) ?_
      refine RW.v ?_
      refine RW.nil ?_
      refine blkQ_normal ?_
      exact ⟨rfl, mm2 - 1, by omega, e + 1, (by omega), (by omega), (by omega), (by rw [hE0, endC_go (c := (xs.drop p)) (by omega) (by rw [getD_dropR]; exact hc25e)]), H, rfl, rfl, rfl, rfl, rfl, rfl, rfl, rfl⟩
     ·have hc25b := hc25
      have hc25e : delC (xs.getD (p + e) 0) = true := by simpa using hc25b
      refine W.exit _ ?_
      refine seqQ_exit ?_
      refine rndQ_exit ?_
      have hE : endC (xs.drop p) (ws.getD i []).length = e := by rw [hE0]; exact endC_stop (c := (xs.drop p)) (by omega) (by rw [getD_dropR]; exact hc25e)
      refine blkQ_here ?_
      refine W.seq ?_
      refine W.seq ?_
      refine W.drawn (by kernel_rfl) (by kernel_rfl) H.gn ?_
      have H26 := H
      iterate 2 refine RW.v ?_
      refine RW.len (by kernel_rfl) (by kernel_rfl) rfl rfl rfl rfl ((h1.le le0).slf.len (e := 3) (by kernel_rfl)) (by kernel_rfl) ?_
      iterate 2 refine RW.v ?_
      refine RW.both _ _ rfl rfl rfl (fun hc27 => ?_) (fun hc27 => ?_)
      ·have hc27b := hc27
       have hc27 := eq_of_beq hc27
       have hbad : endC (xs.drop p) (ws.getD i []).length = (xs.drop p).length ∨ (xs.drop p).getD (endC (xs.drop p) (ws.getD i []).length) 0 ≠ ms.getD i 0 := .inl (by rw [hE]; omega)
       refine RW.skip (by rfl) (by kernel_rfl) ?_
       refine RW.skip (by rfl) (by kernel_rfl) ?_
       refine RW.skip (by rfl) (by kernel_rfl) ?_
       refine RW.skip (by rfl) (by kernel_rfl) ?_
       refine RW.skip (by rfl) (by kernel_rfl) ?_
       refine RW.skip (by rfl) (by kernel_rfl) ?_
       refine RW.skip (by rfl) (by kernel_rfl) ?_
       refine RW.skip (by rfl) (by kernel_rfl) ?_
       refine RW.skip (by rfl) (by kernel_rfl) ?_
       refine RW.v ?_
       refine RW.nil ?_
       refine ⟨⟨by kernel_rfl, ⟨trivial, trivial, trivial, trivial, trivial, trivial, trivial, trivial, trivial, trivial, trivial, trivial, trivial, trivial, trivial, trivial⟩⟩, ?_⟩
       replace H := H26
       clear H26
       refine W.c1 ?_
       refine W.seq (W.region ?_)
       iterate 2 refine RW.v ?_
       refine RW.nil ?_
       replace H := (H.del 0)
       dsimp only [setL, delL] at H
       refine W.ret ?_
       refine seqQ_ret ?_
       refine blkQ_ret ?_
       refine seqQ_ret ?_
       refine rndQ_ret ?_
       refine blkQ_ret ?_
       refine seqQ_ret ?_
       refine endG (by rfl) (by exact resL_tmp (by exact resL_tmp rfl)) ?_
       have hM : matchG fold xs ws ms = none := by rw [hT, match_bad hil him hc7e hbad]; rfl
       rw [hMe, hM]
       exact ⟨F, _, [], le0, rfl, .nil, AllI.nil, H⟩
      ·have hc27b := hc27
       have hc27 := ne_of_beq_false hc27
       have hne : e ≠ (xs.drop p).length := by omega
       refine RW.val (by rfl) (by kernel_rfl) rfl (by kernel_rfl) ?_
       refine RW.val (by rfl) (by kernel_rfl) rfl (by kernel_rfl) ?_
       refine RW.idxF (h1.le le0).slf (by rfl) (by kernel_rfl) rfl Tryd.underlying59 (by kernel_rfl) rfl rfl ⟨by omega, by omega⟩ (by kernel_rfl) ?_
       intro b28 q29 r30 hF31 hE32
       rw [intz_at (l := xs) (j := (p + e)) (i := (((p + e) : Nat) : Int)) (by omega) (by omega)] at hE32
       refine RW.loads 1 (by rfl) (by kernel_rfl) rfl rfl (H26.old _ _ hF31) hE32 rfl (by kernel_rfl) ?_
       refine RW.val (by rfl) (by kernel_rfl) rfl (by kernel_rfl) ?_
       refine RW.val (by rfl) (by kernel_rfl) rfl (by kernel_rfl) ?_
       refine RW.idxF hum.slf (by rfl) (by kernel_rfl) rfl Tryd.underlying59 (by kernel_rfl) rfl rfl ⟨by omega, by omega⟩ (by kernel_rfl) ?_
       intro b33 q34 r35 hF36 hE37
       rw [intz_at (l := ms) (j := i) (i := ((i : Nat) : Int)) (by omega) (by omega)] at hE37
       refine RW.loads 1 (by rfl) (by kernel_rfl) rfl rfl (H26.old _ _ hF36) hE37 rfl (by kernel_rfl) ?_
       refine RW.val (by rfl) (by kernel_rfl) rfl (by kernel_rfl) ?_
       refine RW.v ?_
       refine RW.nil ?_
       refine ⟨⟨by kernel_rfl, ⟨trivial, trivial, trivial, trivial, trivial, trivial, trivial, trivial, dyn_row (H26.old _ _ hF31) (H26.old _ _ hF31) ⟨fun h => Bool.noConfusion h, fun h => Bool.noConfusion h, fun h => Bool.noConfusion h, fun h => Bool.noConfusion h, fun h => Bool.noConfusion h, fun h => Bool.noConfusion h, fun h => Bool.noConfusion h, fun h => Bool.noConfusion h, fun h => Bool.noConfusion h, fun h => Bool.noConfusion h, fun h => Bool.noConfusion h, fun h => Bool.noConfusion h, fun h => Bool.noConfusion h, fun h => Bool.noConfusion h, fun h => Bool.noConfusion h, trivial⟩, trivial, trivial, trivial, dyn_row (H26.old _ _ hF36) (H26.old _ _ hF36) ⟨fun h => Bool.noConfusion h, fun h => Bool.noConfusion h, fun h => Bool.noConfusion h, fun h => Bool.noConfusion h, fun h => Bool.noConfusion h, fun h => Bool.noConfusion h, fun h => Bool.noConfusion h, fun h => Bool.noConfusion h, fun h => Bool.noConfusion h, fun h => Bool.noConfusion h, fun h => Bool.noConfusion h, fun h => Bool.noConfusion h, fun h => Bool.noConfusion h, fun h => Bool.noConfusion h, fun h => Bool.noConfusion h, trivial⟩, trivial, trivial, trivial⟩⟩, ?_⟩
       replace H := H26
       clear H26
       refine W.rg [(0, v1), (2, .bool fold), (8, u), (9, um), (10, u1), (11, .int .i64 ((p : Nat) : Int)), (12, .int .i64 ((i : Nat) : Int)), (13, .int .i64 (((p + e) : Nat) : Int)), (73, .bool ((xs.getD (p + e) 0) != (ms.getD i 0)))] fun TA => ?_
       refine W.cond rfl (fun hc38 => ?_) (fun hc38 => ?_)
       ·have hc38b := hc38
        have hc38 := bne_iff_ne.1 hc38
        have hbad : endC (xs.drop p) (ws.getD i []).length = (xs.drop p).length ∨ (xs.drop p).getD (endC (xs.drop p) (ws.getD i []).length) 0 ≠ ms.getD i 0 := .inr (by rw [hE, getD_dropR]; exact hc38)
        refine W.seq (W.region ?_)
        iterate 2 refine RW.v ?_
        refine RW.nil ?_
        replace H := (H.del 0)
        dsimp only [setL, delL] at H
        refine W.ret ?_
        refine seqQ_ret ?_
        refine blkQ_ret ?_
        refine seqQ_ret ?_
        refine rndQ_ret ?_
        refine blkQ_ret ?_
        refine seqQ_ret ?_
        refine endG (by rfl) (by exact resL_tmp (by exact resL_tmp rfl)) ?_
        have hM : matchG fold xs ws ms = none := by rw [hT, match_bad hil him hc7e hbad]; rfl
        rw [hMe, hM]
        exact ⟨F, _, [], le0, rfl, .nil, AllI.nil, H⟩
       ·have hc38b := hc38
        have hc38 := (bne_eq_false_iff_eq.1) hc38
        have hmk : (xs.drop p).getD e 0 = ms.getD i 0 := by rw [getD_dropR]; exact hc38
        refine W.skip ?_
        refine W.seq (W.region ?_)
        iterate 4 refine RW.v ?_
        obtain ⟨q42, p43, sp44, cc45, hv40, hk41⟩ := slk_mid (P := Tryd.prog) (t := 59) (e := 3) (i := p) (j := (p + e)) (h1.le le0) (by omega) (by kernel_rfl) (by kernel_rfl) (by omega) (by omega) rfl rfl
        obtain ⟨wv39, hwv39⟩ : ∃ wv39, wv39 = Value.slice (some ⟨q42, p43, sp44⟩) ((p + e) - p) cc45 := ⟨_, rfl⟩
        rw [← hwv39] at hv40 hk41
        have hk41b : SlK F 1 wv39 ((xs.drop p).take e).length (((xs.drop p).take e).map (Value.int .i64)) := by rw [List.length_take, List.length_drop, Nat.min_eq_left (by omega), List.map_take, List.map_drop]; rw [Nat.add_sub_cancel_left] at hk41; exact hk41
        refine RW.vop (v := wv39) (by kernel_rfl) (by kernel_rfl) (vop_slice rfl hv40) (by kernel_rfl) ?_
        refine RW.mkL H (x := .row ⟨[wv39], 59, false⟩) (fm := fun b => .slice (some ⟨b, 0, none⟩) 1 1) (by kernel_rfl) (by kernel_rfl) (by rcases slf_forms hk41b.slf with rfl | ⟨_, rfl⟩ | ⟨_, _, _, _, _, rfl⟩ <;> kernel_rfl) (by kernel_rfl) ?_
        clear H; intro _ b46 _ H
        refine RW.appL H 1 0 (n := 1) (e2 := 59) (by kernel_rfl) (by kernel_rfl) rfl rfl rfl rfl rfl rfl rfl rfl (by kernel_rfl) (by kernel_rfl) (by kernel_rfl) (by decide) (by decide) rfl (slf_all hk41b.slf) (by omega) (by kernel_rfl) ?_
        clear H; intro _ v47 _ H
        dsimp only [setL, delL] at H
        refine RW.v ?_
        refine RW.nil ?_
        refine W.rg [(0, v1), (2, .bool fold), (8, u), (9, um), (10, v47), (12, .int .i64 ((i : Nat) : Int)), (13, .int .i64 (((p + e) : Nat) : Int))] fun TA => ?_
        refine W.region ?_
        refine RW.v ?_
        refine RW.valE (v' := .int .i64 ((((p + e) : Nat) : Int) + 1)) (by kernel_rfl) (by kernel_rfl) rfl (congrArg (Value.int .i64) (wrap_in (by omega) (by omega))) (by kernel_rfl) ?_
        refine RW.v ?_
        refine RW.nil ?_
        refine blkQ_normal ?_
        refine W.rg [(0, v1), (2, .bool fold), (8, u), (9, um), (10, v47), (11, .int .i64 ((((p + e) : Nat) : Int) + 1)), (12, .int .i64 ((i : Nat) : Int))] fun TA => ?_
        refine W.region ?_
        refine RW.v ?_
        refine RW.valE (v' := .int .i64 (((i : Nat) : Int) + 1)) (by kernel_rfl) (by kernel_rfl) rfl (congrArg (Value.int .i64) (wrap_in (by omega) (by omega))) (by kernel_rfl) ?_
        refine RW.v ?_
        refine RW.nil ?_
        rw [show acc.length + 1 = (acc ++ [(xs.drop p).take e]).length by rw [List.length_append]; rfl] at H
        exact ⟨rfl, mm - 1, by omega, i + 1, (p + (e + 1)), (acc ++ [(xs.drop p).take e]), (cs ++ [wv39]), v47, (by omega), (by omega), (by omega), (al2.snoc hk41b), (by rw [List.length_append, List.length_singleton]; omega), (by rw [hT, match_go hil him hc7e hE hne hmk, List.drop_drop, Option.map_map]; congr 1; funext r; show acc ++ ((xs.drop p).take e :: r) = acc ++ [(xs.drop p).take e] ++ r; rw [List.append_assoc]; rfl), H, rfl, rfl, rfl, rfl, rfl, rfl, rfl⟩
    ·have hc19b := hc19
     have hc19 := of_decide_eq_false hc19
     refine RW.skip (by rfl) (by kernel_rfl) ?_
     refine RW.skip (by rfl) (by kernel_rfl) ?_
     refine RW.skip (by rfl) (by kernel_rfl) ?_
     refine RW.skip (by rfl) (by kernel_rfl) ?_
     refine RW.skip (by rfl) (by kernel_rfl) ?_
     refine RW.skip (by rfl) (by kernel_rfl) ?_
     refine RW.v ?_
     refine RW.nil ?_
     refine W.c0 ?_
     refine W.exit _ ?_
     refine seqQ_exit ?_
     refine rndQ_exit ?_
     have hE : endC (xs.drop p) (ws.getD i []).length = e := by rw [hE0]; exact endC_end (by omega)
     refine blkQ_here ?_
     refine W.seq ?_
     refine W.seq ?_
     refine W.drawn (by kernel_rfl) (by kernel_rfl) H.gn ?_
     have H48 := H
     iterate 2 refine RW.v ?_
     refine RW.len (by kernel_rfl) (by kernel_rfl) rfl rfl rfl rfl ((h1.le le0).slf.len (e := 3) (by kernel_rfl)) (by kernel_rfl) ?_
     iterate 2 refine RW.v ?_
     refine RW.both _ _ rfl rfl rfl (fun hc49 => ?_) (fun hc49 => ?_)
     ·have hc49b := hc49
      have hc49 := eq_of_beq hc49
      have hbad : endC (xs.drop p) (ws.getD i []).length = (xs.drop p).length ∨ (xs.drop p).getD (endC (xs.drop p) (ws.getD i []).length) 0 ≠ ms.getD i 0 := .inl (by rw [hE]; omega)
      refine RW.skip (by rfl) (by kernel_rfl) ?_
      refine RW.skip (by rfl) (by kernel_rfl) ?_
      refine RW.skip (by rfl) (by kernel_rfl) ?_
      refine RW.skip (by rfl) (by kernel_rfl) ?_
      refine RW.skip (by rfl) (by kernel_rfl) ?_
      refine RW.skip (by rfl) (by kernel_rfl) ?_
      refine RW.skip (by rfl) (by kernel_rfl) ?_
      refine RW.skip (by rfl) (by kernel_rfl) ?_
      refine RW.skip (by rfl) (by kernel_rfl) ?_
      refine RW.v ?_
      refine RW.nil ?_
      refine ⟨⟨by kernel_rfl, ⟨trivial, trivial, trivial, trivial, trivial, trivial, trivial, trivial, trivial, trivial, trivial, trivial, trivial, trivial, trivial, trivial⟩⟩, ?_⟩
      replace H := H48
      clear H48
      refine W.c1 ?_
      refine W.seq (W.region ?_)
      iterate 2 refine RW.v ?_
      refine RW.nil ?_
      replace H := (H.del 0)
      dsimp only [setL, delL] at H
      refine W.ret ?_
      refine seqQ_ret ?_
      refine blkQ_ret ?_
      refine seqQ_ret ?_
      refine rndQ_ret ?_
      refine blkQ_ret ?_
      refine seqQ_ret ?_
      refine endG (by rfl) (by exact resL_tmp (by exact resL_tmp rfl)) ?_
      have hM : matchG fold xs ws ms = none := by rw [hT, match_bad hil him hc7e hbad]; rfl
      rw [hMe, hM]
      exact ⟨F, _, [], le0, rfl, .nil, AllI.nil, H⟩
     ·have hc49b := hc49
      have hc49 := ne_of_beq_false hc49
      have hne : e ≠ (xs.drop p).length := by omega
      refine RW.val (by rfl) (by kernel_rfl) rfl (by kernel_rfl) ?_
      refine RW.val (by rfl) (by kernel_rfl) rfl (by kernel_rfl) ?_
      refine RW.idxF (h1.le le0).slf (by rfl) (by kernel_rfl) rfl Tryd.underlying59 (by kernel_rfl) rfl rfl ⟨by omega, by omega⟩ (by kernel_rfl) ?_
      intro b50 q51 r52 hF53 hE54
      rw [intz_at (l := xs) (j := (p + e)) (i := (((p + e) : Nat) : Int)) (by omega) (by omega)] at hE54
      refine RW.loads 1 (by rfl) (by kernel_rfl) rfl rfl (H48.old _ _ hF53) hE54 rfl (by kernel_rfl) ?_
      refine RW.val (by rfl) (by kernel_rfl) rfl (by kernel_rfl) ?_
      refine RW.val (by rfl) (by kernel_rfl) rfl (by kernel_rfl) ?_
      refine RW.idxF hum.slf (by rfl) (by kernel_rfl) rfl Tryd.underlying59 (by kernel_rfl) rfl rfl ⟨by omega, by omega⟩ (by kernel_rfl) ?_
      intro b55 q56 r57 hF58 hE59
      rw [intz_at (l := ms) (j := i) (i := ((i : Nat) : Int)) (by omega) (by omega)] at hE59
      refine RW.loads 1 (by rfl) (by kernel_rfl) rfl rfl (H48.old _ _ hF58) hE59 rfl (by kernel_rfl) ?_
      refine RW.val (by rfl) (by kernel_rfl) rfl (by kernel_rfl) ?_
      refine RW.v ?_
      refine RW.nil ?_
      refine ⟨⟨by kernel_rfl, ⟨trivial, trivial, trivial, trivial, trivial, trivial, trivial, trivial, dyn_row (H48.old _ _ hF53) (H48.old _ _ hF53) ⟨fun h => Bool.noConfusion h, fun h => Bool.noConfusion h, fun h => Bool.noConfusion h, fun h => Bool.noConfusion h, fun h => Bool.noConfusion h, fun h => Bool.noConfusion h, fun h => Bool.noConfusion h, fun h => Bool.noConfusion h, fun h => Bool.noConfusion h, fun h => Bool.noConfusion h, fun h => Bool.noConfusion h, fun h => Bool.noConfusion h, fun h => Bool.noConfusion h, fun h => Bool.noConfusion h, fun h => Bool.noConfusion h, trivial⟩, trivial, trivial, trivial, dyn_row (H48.old _ _ hF58) (H48.old _ _ hF58) ⟨fun h => Bool.noConfusion h, fun h => Bool.noConfusion h, fun h => Bool.noConfusion h, fun h => Bool.noConfusion h, fun h => Bool.noConfusion h, fun h => Bool.noConfusion h, fun h => Bool.noConfusion h, fun h => Bool.noConfusion h, fun h => Bool.noConfusion h, fun h => Bool.noConfusion h, fun h => Bool.noConfusion h, fun h => Bool.noConfusion h, fun h => Bool.noConfusion h, fun h => Bool.noConfusion h, fun h => Bool.noConfusion h, trivial⟩, trivial, trivial, trivial⟩⟩, ?_⟩
      replace H := H48
      clear H48
      refine W.rg [(0, v1), (2, .bool fold), (8, u), (9, um), (10, u1), (11, .int .i64 ((p : Nat) : Int)), (12, .int .i64 ((i : Nat) : Int)), (13, .int .i64 (((p + e) : Nat) : Int)), (73, .bool ((xs.getD (p + e) 0) != (ms.getD i 0)))] fun TA => ?_
      refine W.cond rfl (fun hc60 => ?_) (fun hc60 => ?_)
      ·have hc60b := hc60
       have hc60 := bne_iff_ne.1 hc60
       have hbad : endC (xs.drop p) (ws.getD i []).length = (xs.drop p).length ∨ (xs.drop p).getD (endC (xs.drop p) (ws.getD i []).length) 0 ≠ ms.getD i 0 := .inr (by rw [hE, getD_dropR]; exact hc60)
       refine W.seq (W.region ?_)
       iterate 2 refine RW.v ?_
       refine RW.nil ?_
       replace H := (H.del 0)
       dsimp only [setL, delL] at H
       refine W.ret ?_
       refine seqQ_ret ?_
       refine blkQ_ret ?_
       refine seqQ_ret ?_
       refine rndQ_ret ?_
       refine blkQ_ret ?_
       refine seqQ_ret ?_
       refine endG (by rfl) (by exact resL_tmp (by exact resL_tmp rfl)) ?_
       have hM : matchG fold xs ws ms = none := by rw [hT, match_bad hil him hc7e hbad]; rfl
       rw [hMe, hM]
       exact ⟨F, _, [], le0, rfl, .nil, AllI.nil, H⟩
      ·have hc60b := hc60
       have hc60 := (bne_eq_false_iff_eq.1) hc60
       have hmk : (xs.drop p).getD e 0 = ms.getD i 0 := by rw [getD_dropR]; exact hc60
       refine W.skip ?_
       refine W.seq (W.region ?_)
       iterate 4 refine RW.v ?_
       obtain ⟨q64, p65, sp66, cc67, hv62, hk63⟩ := slk_mid (P := Tryd.prog) (t := 59) (e := 3) (i := p) (j := (p + e)) (h1.le le0) (by omega) (by kernel_rfl) (by kernel_rfl) (by omega) (by omega) rfl rfl
       obtain ⟨wv61, hwv61⟩ : ∃ wv61, wv61 = Value.slice (some ⟨q64, p65, sp66⟩) ((p + e) - p) cc67 := ⟨_, rfl⟩
       rw [← hwv61] at hv62 hk63
       have hk63b : SlK F 1 wv61 ((xs.drop p).take e).length (((xs.drop p).take e).map (Value.int .i64)) := by rw [List.length_take, List.length_drop, Nat.min_eq_left (by omega), List.map_take, List.map_drop]; rw [Nat.add_sub_cancel_left] at hk63; exact hk63
       refine RW.vop (v := wv61) (by kernel_rfl) (by kernel_rfl) (vop_slice rfl hv62) (by kernel_rfl) ?_
       refine RW.mkL H (x := .row ⟨[wv61], 59, false⟩) (fm := fun b => .slice (some ⟨b, 0, none⟩) 1 1) (by kernel_rfl) (by kernel_rfl) (by rcases slf_forms hk63b.slf with rfl | ⟨_, rfl⟩ | ⟨_, _, _, _, _, rfl⟩ <;> kernel_rfl) (by kernel_rfl) ?_
       clear H; intro _ b68 _ H
       refine RW.appL H 1 0 (n := 1) (e2 := 59) (by kernel_rfl) (by kernel_rfl) rfl rfl rfl rfl rfl rfl rfl rfl (by kernel_rfl) (by kernel_rfl) (by kernel_rfl) (by decide) (by decide) rfl (slf_all hk63b.slf) (by omega) (by kernel_rfl) ?_
       clear H; intro _ v69 _ H
       dsimp only [setL, delL] at H
       refine RW.v ?_
       refine RW.nil ?_
       refine W.rg [(0, v1), (2, .bool fold), (8, u), (9, um), (10, v69), (12, .int .i64 ((i : Nat) : Int)), (13, .int .i64 (((p + e) : Nat) : Int))] fun TA => ?_
       refine W.region ?_
       refine RW.v ?_
       refine RW.valE (v' := .int .i64 ((((p + e) : Nat) : Int) + 1)) (by kernel_rfl) (by kernel_rfl) rfl (congrArg (Value.int .i64) (wrap_in (by omega) (by omega))) (by kernel_rfl) ?_
       refine RW.v ?_
       refine RW.nil ?_
       refine blkQ_normal ?_
       refine W.rg [(0, v1), (2, .bool fold), (8, u), (9, um), (10, v69), (11, .int .i64 ((((p + e) : Nat) : Int) + 1)), (12, .int .i64 ((i : Nat) : Int))] fun TA => ?_
       refine W.region ?_
       refine RW.v ?_
       refine RW.valE (v' := .int .i64 (((i : Nat) : Int) + 1)) (by kernel_rfl) (by kernel_rfl) rfl (congrArg (Value.int .i64) (wrap_in (by omega) (by omega))) (by kernel_rfl) ?_
       refine RW.v ?_
       refine RW.nil ?_
       rw [show acc.length + 1 = (acc ++ [(xs.drop p).take e]).length by rw [List.length_append]; rfl] at H
       exact ⟨rfl, mm - 1, by omega, i + 1, (p + (e + 1)), (acc ++ [(xs.drop p).take e]), (cs ++ [wv61]), v69, (by omega), (by omega), (by omega), (al2.snoc hk63b), (by rw [List.length_append, List.length_singleton]; omega), (by rw [hT, match_go hil him hc7e hE hne hmk, List.drop_drop, Option.map_map]; congr 1; funext r; show acc ++ ((xs.drop p).take e :: r) = acc ++ [(xs.drop p).take e] ++ r; rw [List.append_assoc]; rfl), H, rfl, rfl, rfl, rfl, rfl, rfl, rfl⟩
 ·have hc1b := hc1
  have hc1 := of_decide_eq_false hc1
  refine W.exit _ ?_
  refine seqQ_exit ?_
  refine rndQ_exit ?_
  have hM : matchG fold xs ws ms = some (acc ++ [(xs.drop p)]) := by rw [hT, List.drop_eq_nil_of_le (show ws.length ≤ i by omega), matchG]; rfl
  refine blkQ_here ?_
  refine W.seq (W.region ?_)
  iterate 3 refine RW.v ?_
  obtain ⟨wr70, hv71, hk72⟩ := slk_rest (P := Tryd.prog) (t := 59) (e := 3) (i := p) (h1.le le0) (by kernel_rfl) (by kernel_rfl) (by omega)
  have hk72b : SlK F 1 wr70 (xs.drop p).length ((xs.drop p).map (Value.int .i64)) := by rw [Nat.mul_one] at hk72; rw [List.length_drop, List.map_drop]; exact hk72
  refine RW.vop (v := wr70) (by kernel_rfl) (by kernel_rfl) (vop_slice rfl hv71) (by kernel_rfl) ?_
  refine RW.mkL H (x := .row ⟨[wr70], 59, false⟩) (fm := fun b => .slice (some ⟨b, 0, none⟩) 1 1) (by kernel_rfl) (by kernel_rfl) (by rcases slf_forms hk72b.slf with rfl | ⟨_, rfl⟩ | ⟨_, _, _, _, _, rfl⟩ <;> kernel_rfl) (by kernel_rfl) ?_
  clear H; intro _ b73 _ H
  refine RW.appL H 1 0 (n := 1) (e2 := 59) (by kernel_rfl) (by kernel_rfl) rfl rfl rfl rfl rfl rfl rfl rfl (by kernel_rfl) (by kernel_rfl) (by kernel_rfl) (by decide) (by decide) rfl (slf_all hk72b.slf) (by omega) (by kernel_rfl) ?_
  clear H; intro _ v74 _ H
  dsimp only [setL, delL] at H
  iterate 2 refine RW.v ?_
  refine RW.nil ?_
  refine W.ret ?_
  refine endG (by rfl) (by exact resL_tmp (by exact resL_tmp rfl)) ?_
  rw [hMe, hM]
  have al3 := al2.snoc hk72b
  obtain ⟨F', le, hu1, H⟩ := H.freezeK 0 rfl
  dsimp only [setL, delL] at H
  exact ⟨F', _, cs ++ [wr70], fun b y h => le b y (le0 b y h), rfl, by show SlK F' 1 _ (acc ++ [(xs.drop p)]).length _; rw [List.length_append]; exact hu1, al3.le le, H⟩
end
end Go.Proofs.YtjcmdifpkafdkaaDoor
namespace Go.Proofs.YtjcmdifpkafdkaaDoor
open Go.Lib
set_option maxRecDepth 100000
open Go.RowKit
def PE (us : List Value) (xss : List (List Value)) : List Ent := (us.zip xss).map fun p => .sl 50 1 p.1 p.2.length p.2
theorem pe_focus : ∀ {us : List Value} {xss : List (List Value)} {j : Nat}, j < us.length → us.length = xss.length → (PE us xss).Perm (.sl 50 1 (us.getD j undef) (xss.getD j []).length (xss.getD j []) :: PE (us.eraseIdx j) (xss.eraseIdx j))
 | [], _, _, h, _ => absurd h (Nat.not_lt_zero _)
 | _ :: _, [], _, _, k => by cases k
 | u :: us, x :: xss, 0, _, _ => List.Perm.refl _
 | u :: us, x :: xss, j + 1, h, k => ((pe_focus (us := us) (xss := xss) (j := j) (Nat.lt_of_succ_lt_succ h) (Nat.succ.inj k)).cons _).trans (List.Perm.swap ..)
theorem pe_set : ∀ {us : List Value} {xss : List (List Value)} {j : Nat} {u : Value} {x : List Value}, j < us.length → us.length = xss.length → (PE (us.set j u) (xss.set j x)).Perm (.sl 50 1 u x.length x :: PE (us.eraseIdx j) (xss.eraseIdx j))
 | [], _, _, _, _, h, _ => absurd h (Nat.not_lt_zero _)
 | _ :: _, [], _, _, _, _, k => by cases k
 | _ :: us, _ :: xss, 0, _, _, _, _ => List.Perm.refl _
 | _ :: us, _ :: xss, j + 1, _, _, h, k => ((pe_set (us := us) (xss := xss) (j := j) (Nat.lt_of_succ_lt_succ h) (Nat.succ.inj k)).cons _).trans (List.Perm.swap ..)
theorem pe_pick {us : List Value} {xss : List (List Value)} {j : Nat} {X : Ent} {L : List Ent} (h : j < us.length) (k : us.length = xss.length) : (X :: (PE us xss ++ L)).Perm (X :: .sl 50 1 (us.getD j undef) (xss.getD j []).length (xss.getD j []) :: (PE (us.eraseIdx j) (xss.eraseIdx j) ++ L)) := ((pe_focus h k).append_right L).cons X
theorem pe_put {us : List Value} {xss : List (List Value)} {j : Nat} {u : Value} {x : List Value} {X : Ent} {L : List Ent} (h : j < us.length) (k : us.length = xss.length) : (X :: .sl 50 1 u x.length x :: (PE (us.eraseIdx j) (xss.eraseIdx j) ++ L)).Perm (X :: (PE (us.set j u) (xss.set j x) ++ L)) := (((pe_set h k).append_right L).cons X).symm
theorem Lies.nils {G : Nat} {A : Abs} {σ : Mem} {F : Nat → Option Blk2} {L : List Ent} (H : Lies G A F σ L) : ∀ n, Lies G A F σ (PE (List.replicate n (.slice none 0 0)) (List.replicate n []) ++ L)
 | 0 => H
 | n + 1 => (Lies.nils H n).nilSl 50 1
theorem Lies.nilsP {G : Nat} {A : Abs} {σ : Mem} {F : Nat → Option Blk2} {L : List Ent} {X : Ent} (H : Lies G A F σ (X :: L)) (n : Nat) : Lies G A F σ (X :: (PE (List.replicate n (.slice none 0 0)) (List.replicate n []) ++ L)) := Lies.rot (B := PE (List.replicate n (.slice none 0 0)) (List.replicate n [])) (X := [X]) (Lies.nils H n)
theorem Lies.freezePE {G : Nat} {A : Abs} {σ : Mem} {L : List Ent} : ∀ {us : List Value} {xss : List (List Value)} {F : Nat → Option Blk2}, Lies G A F σ (PE us xss ++ L) → us.length = xss.length → ∃ F', Le F F' ∧ (∀ t, t < us.length → SlK F' 1 (us.getD t undef) (xss.getD t []).length (xss.getD t [])) ∧ Lies G A F' σ L
 | [], _, F, H, _ => ⟨F, fun _ _ h => h, fun _ h => absurd h (Nat.not_lt_zero _), H⟩
 | _ :: _, [], _, _, k => by cases k
 | u :: us, x :: xss, F, H, k => by
  obtain ⟨F1, l1, h1, H1⟩ := Lies.freezeK H 0 rfl
  obtain ⟨F2, l2, h2, H2⟩ := Lies.freezePE (us := us) (xss := xss) H1 (Nat.succ.inj k)
  refine ⟨F2, fun b y h => l2 b y (l1 b y h), fun t ht => ?_, H2⟩
  cases t with
  | zero => exact h1.le l2
  | succ t => exact h2 t (Nat.lt_of_succ_lt_succ ht)
theorem getD_rep {n t : Nat} : (List.replicate n ([] : List Value)).getD t [] = [] := by
 rw [List.getD_eq_getElem?_getD, List.getElem?_replicate]
 split <;> rfl
theorem us_at {us : List Value} {j : Nat} (h : j < us.length) : (us.drop j).take 1 = [us.getD j undef] := by
 rw [dropD (d := undef) h]
 rfl
theorem comT_len {fold : Bool} {rs : List (List Int)} {n : Nat} (h : ∀ z ∈ rs, z.length ≤ n) : (comC fold rs).length ≤ n := by
 cases rs with
 | nil => exact Nat.zero_le _
 | cons z rs =>
  have := h z (List.mem_cons_self ..)
  show (z.take _).length ≤ n
  rw [List.length_take]
  omega
theorem comT_sub {fold : Bool} {rs : List (List Int)} : ∀ c ∈ comC fold rs, ∃ z ∈ rs, c ∈ z := by
 cases rs with
 | nil => exact fun c h => absurd h (List.not_mem_nil)
 | cons z rs => exact fun c h => ⟨z, List.mem_cons_self .., List.mem_of_mem_take h⟩
theorem piece_len {fold : Bool} {c s : List Int} (h : (matchC fold c s).isSome = true) : ((matchC fold c s).getD []).length = (partsC s).1.length := by
 obtain ⟨r, hr⟩ := Option.isSome_iff_exists.1 h
 rw [hr]
 exact match_len (partsG_len s []) hr
theorem piece_sub {fold : Bool} {c s : List Int} (i : Nat) : (((matchC fold c s).getD []).getD i []).length ≤ c.length ∧ ∀ x ∈ ((matchC fold c s).getD []).getD i [], x ∈ c := by
 cases hm : matchC fold c s with
 | none => exact ⟨Nat.zero_le _, fun x h => absurd h (List.not_mem_nil)⟩
 | some r =>
  show (r.getD i []).length ≤ _ ∧ ∀ x ∈ r.getD i [], _
  by_cases hi : i < r.length
  ·exact match_sub hm _ (lst_mem hi)
  ·rw [List.getD_eq_getElem?_getD, List.getElem?_eq_none (by omega)]
   exact ⟨Nat.zero_le _, fun x h => absurd h (List.not_mem_nil)⟩
theorem piece_in {fold : Bool} {m : List (List UInt8)} {s : List UInt8} {i : Nat} (h : ∀ x ∈ m, x.length ≤ 60) : ∀ z ∈ pieceC fold m s i, z.length ≤ 60 ∧ ∀ c ∈ z, 0 ≤ c ∧ c ≤ 1114111 := fun z hz => by
 obtain ⟨x, hx, rfl⟩ := List.mem_map.1 hz
 have := piece_sub (fold := fold) (c := runes x) (s := runes s) i
 exact ⟨Nat.le_trans this.1 (Nat.le_trans (runes_le x) (h x hx)), fun c hc => runes_in x c (this.2 c hc)⟩
theorem piece_snoc {fold : Bool} {m : List (List UInt8)} {s : List UInt8} {i t : Nat} (h : i < m.length) : pieceC fold (m.take (i + 1)) s t = pieceC fold (m.take i) s t ++ [((matchC fold (runes (m.getD i [])) (runes s)).getD []).getD t []] := by
 unfold pieceC
 rw [List.take_add_one, List.getElem?_eq_getElem h, List.map_append, List.getD_eq_getElem?_getD (l := m), List.getElem?_eq_getElem h]
 rfl
theorem pa_step {F : Nat → Option Blk2} {fold : Bool} {m : List (List UInt8)} {s : List UInt8} {i j k : Nat} {xss : List (List Value)} {w : Value} {r : List (List Int)} (hA : ∀ t, t < k → AllZ F (xss.getD t []) (pieceC fold (m.take (if t < j then i + 1 else i)) s t)) (hj : j < k) (hx : xss.length = k) (hi : i < m.length) (hw : SlK F 1 w (r.getD j []).length ((r.getD j []).map runeV)) (hr : r = (matchC fold (runes (m.getD i [])) (runes s)).getD []) : ∀ t, t < k → AllZ F ((xss.set j (xss.getD j [] ++ [w])).getD t []) (pieceC fold (m.take (if t < j + 1 then i + 1 else i)) s t) := fun t ht => by
 by_cases e : t = j
 ·subst e
  have h1 := hA t ht
  rw [if_neg (Nat.lt_irrefl _)] at h1
  rw [if_pos (Nat.lt_succ_self _), piece_snoc hi, ← hr, List.getD_eq_getElem?_getD (l := xss.set t _), List.getElem?_set_self (by omega)]
  exact h1.snoc hw
 ·have h1 := hA t ht
  rw [List.getD_eq_getElem?_getD (l := xss.set j _), List.getElem?_set_ne (Ne.symm e), ← List.getD_eq_getElem?_getD]
  by_cases h2 : t < j
  ·rw [if_pos h2] at h1
   rw [if_pos (by omega)]
   exact h1
  ·rw [if_neg h2] at h1
   rw [if_neg (by omega)]
   exact h1
theorem join_step {fold : Bool} {m : List (List UInt8)} {s : List UInt8} {k i : Nat} (h : i < k) : joinC fold m s (k - i) i = comC fold (pieceC fold m s i) ++ (if i < (partsC (runes s)).2.length then [(partsC (runes s)).2.getD i 0] else []) ++ joinC fold m s (k - (i + 1)) (i + 1) := by
 rw [show k - i = (k - (i + 1)) + 1 by omega]
 rfl
theorem partsG_del : ∀ (s w : List Int), ∀ c ∈ (partsG w s).2, delC c = true
 | [], _ => fun c h => absurd h (List.not_mem_nil)
 | x :: s, w => by
  unfold partsG
  split
  ·next hx =>
   intro c hc
   rcases List.mem_cons.1 hc with rfl | hc
   ·exact hx
   ·exact partsG_del s [] c hc
  ·exact partsG_del s _
theorem del_ch {c : Int} (h : delC c = true) : chB c = true := by
 unfold delC at h
 rcases of_decide_eq_true h with rfl | rfl | rfl | rfl | rfl | rfl <;> rfl
theorem joinG_chars {fold : Bool} {l : List (List UInt8)} {s : List UInt8} : ∀ n i, ∀ c ∈ joinC fold (partC fold l s) s n i, chB c = true := by
 intro n
 induction n with
 | zero => exact fun i c h => absurd h (List.not_mem_nil)
 | succ n ih =>
  intro i c hc
  rcases List.mem_append.1 hc with hc | hc
  ·rcases List.mem_append.1 hc with hc | hc
   ·obtain ⟨z, hz, hcz⟩ := comT_sub c hc
    obtain ⟨x, hx, rfl⟩ := List.mem_map.1 hz
    exact runes_chars (partC_good.1 x hx).1.1 c ((piece_sub (fold := fold) (c := runes x) (s := runes s) i).2 c hcz)
   ·split at hc
    ·next hlt =>
     refine del_ch (partsG_del (runes s) [] c ?_)
     have e := List.mem_singleton.1 hc
     rw [e, List.getD_eq_getElem?_getD, List.getElem?_eq_getElem hlt]
     exact List.getElem_mem hlt
    ·exact absurd hc (List.not_mem_nil)
  ·exact ih _ c hc
theorem join_chars {fold : Bool} {l : List (List UInt8)} {s : List UInt8} : ∀ c ∈ joinC fold (partC fold l s) s (partsC (runes s)).1.length 0, chB c = true := joinG_chars _ _
section
variable {G : Nat} {A : Abs} {σ : Mem} {F : Nat → Option Blk2} {L : List Ent} {fold : Bool} {l : List (List UInt8)} {v1 : Value} {s : List UInt8}
set_option maxHeartbeats 16000000 in
theorem TryPartial_wc (hU : U8F F) (h16 : 16 ≤ G) (h1 : SlF F 1 v1 l.length (l.map strV)) (hl : l.length ≤ 1000000) (hsm : ∀ s ∈ l, s.length ≤ 60) (hs : s.length ≤ 16000) (H : Lies G A F σ L) : WC G Tryd.prog 13 #[v1, .string ⟨s.toArray⟩, .bool fold] σ fun v σ' => v = .tuple #[.string ⟨(tryP fold l s).toArray⟩, .int .i64 (statusC fold (partC fold l s) s)] ∧ Lies G A F σ' L := by
 cases fold with
 | true =>
  obtain ⟨F0, hF⟩ : ∃ F0, F0 = F := ⟨_, rfl⟩
  have le0 : Le F0 F := fun b y h => hF ▸ h
  rw [← hF] at h1 hU ⊢
  refine WC.enter (fn := Tryd.f13) Tryd.func13 rfl ?_
  refine W.rg [(0, v1), (1, .string ⟨s.toArray⟩), (2, .bool true)] fun TA => ?_
  refine W.seq (W.region ?_)
  iterate 2 refine RW.v ?_
  refine RW.nil ?_
  refine W.rg [(0, v1), (1, .string ⟨s.toArray⟩), (2, .bool true)] fun TA => ?_
  refine W.seq (W.region ?_)
  iterate 3 refine RW.v ?_
  refine RW.cl ?_
  refine ((Partial_wc (fold := true) (hU.le le0) h16 (h1.le le0) hl (fun x hx => Nat.le_trans (hsm x hx) (by decide)) hs H).mono ?_)
  clear H
  rintro mv _ ⟨F, le, hmv, H⟩
  replace le0 := fun b y h => le b y (le0 b y h)
  obtain ⟨m, hm⟩ : ∃ m, m = partC true l s := ⟨_, rfl⟩
  rw [← hm] at hmv ⊢
  have hml : m.length ≤ 1000000 := by rw [hm]; exact Nat.le_trans partC_len hl
  have hmm : ∀ x ∈ m, x.length ≤ 60 := fun x hx => by rw [hm] at hx; exact hsm x (partC_good.1 x hx).1.2
  refine RW.v ?_
  refine RW.nil ?_
  refine W.rg [(1, .string ⟨s.toArray⟩), (2, .bool true), (8, mv)] fun TA => ?_
  refine W.seq ?_
  refine W.seq (W.region ?_)
  refine RW.v ?_
  refine RW.len (by kernel_rfl) (by kernel_rfl) rfl rfl rfl rfl (hmv.len (e := 9) (by kernel_rfl)) (by kernel_rfl) ?_
  refine RW.v ?_
  refine RW.nil ?_
  refine W.rg [(1, .string ⟨s.toArray⟩), (2, .bool true), (8, mv), (28, .bool ((m.length : Int) == 0))] fun TA => ?_
  refine W.cond rfl (fun hc1 => ?_) (fun hc1 => ?_)
  ·have hc1b := hc1
   have hc1 := eq_of_beq hc1
   have hm0 : m = [] := List.eq_nil_of_length_eq_zero (by omega)
   refine W.seq (W.region ?_)
   iterate 2 refine RW.v ?_
   refine RW.nil ?_
   refine W.ret ?_
   refine seqQ_ret ?_
   refine endG (by rfl) (by exact resL_tmp (by exact resL_tmp rfl)) ?_
   rw [show tryP true l s = [] by unfold tryP; rw [← hm, if_pos hm0], show statusC true m s = 0 by rw [hm0]; rfl]
   exact ⟨rfl, (H).back le0⟩
  ·have hc1b := hc1
   have hc1 := ne_of_beq_false hc1
   have hmpos : 0 < m.length := by omega
   refine W.skip ?_
   refine W.seq (W.region ?_)
   refine RW.v ?_
   refine RW.cl ?_
   refine ((by_wc (fold := true) H).mono ?_)
   clear H
   rintro _ _ ⟨rfl, H⟩
   refine RW.mk H (.row ⟨[.nilFunc], 47, false⟩) ?_
   clear H; intro _ b2 _ H
   refine RW.st H 0 [.func (.func 84) #[] #[]] [.func (.func 84) #[] #[]] ?_
   clear H; intro _ _ H; dsimp only [setL, delL] at H
   refine RW.nil ?_
   refine W.rg [(1, .string ⟨s.toArray⟩), (2, .bool true), (8, mv), (9, .pointer (some ⟨b2, 0, none⟩))] fun TA => ?_
   refine W.seq (W.region ?_)
   refine RW.v ?_
   refine RW.convR H (Nat.le_trans hs (by decide)) (by kernel_rfl) (by kernel_rfl) rfl rfl rfl rfl rfl (by kernel_rfl) ?_
   clear H; intro _ cv3 H
   obtain ⟨F, le, hk4, H⟩ := H.freezeK 0 rfl
   dsimp only [setL, delL] at H
   replace le0 := fun b y h => le b y (le0 b y h)
   replace hmv := hmv.le le
   refine RW.cl ?_
   refine ((parts_wc hk4 (Nat.le_trans (runes_le s) (Nat.le_trans hs (by decide))) H).mono ?_)
   clear H
   rintro _ _ ⟨F, u, um, wsl, le, rfl, hu, al, hum, H⟩
   replace le0 := fun b y h => le b y (le0 b y h)
   replace hmv := hmv.le le
   replace hk4 := hk4.le le
   obtain ⟨ws, hws⟩ : ∃ ws, ws = (partsC (runes s)).1 := ⟨_, rfl⟩
   obtain ⟨ms, hms⟩ : ∃ ms, ms = (partsC (runes s)).2 := ⟨_, rfl⟩
   rw [← hws] at hu al
   rw [← hms] at hum
   have hwm : ws.length = ms.length + 1 := by rw [hws, hms]; exact partsG_len _ _
   have hmr : ms.length ≤ (runes s).length := by rw [hms]; exact partsG_small _ _
   have hwb : ∀ w ∈ ws, ∀ x ∈ w, 0 ≤ x ∧ x ≤ 1114111 := fun w hw x hx => by rw [hws] at hw; exact ((partsG_mem (runes s) []).1 w hw x hx).elim (fun h => absurd h (List.not_mem_nil)) (runes_in s x)
   have hmb : ∀ x ∈ ms, 0 ≤ x ∧ x ≤ 1114111 := fun x hx => by rw [hms] at hx; exact runes_in s x ((partsG_mem (runes s) []).2 x hx)
   have hrs : (runes s).length ≤ 16000 := Nat.le_trans (runes_le s) hs
   iterate 5 refine RW.v ?_
   refine RW.nil ?_
   refine W.rg [(1, .string ⟨s.toArray⟩), (2, .bool true), (8, mv), (9, .pointer (some ⟨b2, 0, none⟩)), (10, u), (11, um)] fun TA => ?_
   refine W.seq (W.region ?_)
   refine RW.v ?_
   refine RW.len (by kernel_rfl) (by kernel_rfl) rfl rfl rfl rfl (hu.slf.len (e := 50) (by kernel_rfl)) (by kernel_rfl) ?_
   obtain ⟨F, le, hb7, H⟩ := H.freeze 0 rfl
   dsimp only [setL, delL] at H
   replace le0 := fun b y h => le b y (le0 b y h)
   replace hmv := hmv.le le
   replace hk4 := hk4.le le
   replace hu := hu.le le
   replace al := al.le le
   replace hum := hum.le le
   refine RW.mkS H (e := 49) (n := ws.length) (z := .slice none 0 0) (by kernel_rfl) (by kernel_rfl) rfl rfl rfl (by kernel_rfl) (by kernel_rfl) (by kernel_rfl) (by kernel_rfl) rfl rfl (by omega) (by kernel_rfl) rfl ?_
   clear H; intro _ bp H
   replace H := H.nilsP ws.length
   obtain ⟨F1, hF1⟩ : ∃ F1, F1 = F := ⟨_, rfl⟩
   have le1 : Le F1 F := fun b y h => hF1 ▸ h
   have le01 : Le F0 F1 := by rw [hF1]; exact le0
   rw [← hF1] at hb7 hu al hum hmv
   clear hF1 le0
   refine RW.v ?_
   refine RW.nil ?_
   refine W.rg [(1, .string ⟨s.toArray⟩), (2, .bool true), (8, mv), (9, .pointer (some ⟨b2, 0, none⟩)), (10, u), (11, um), (12, .slice (some ⟨bp, 0, none⟩) ws.length ws.length)] fun TA => ?_
   refine W.seq ?_
   refine W.seq (W.region ?_)
   refine RW.v ?_
   refine RW.len (by kernel_rfl) (by kernel_rfl) rfl rfl rfl rfl ((hmv.le le1).len (e := 9) (by kernel_rfl)) (by kernel_rfl) ?_
   refine RW.v ?_
   refine RW.nil ?_
   refine W.rg [(1, .string ⟨s.toArray⟩), (2, .bool true), (8, mv), (9, .pointer (some ⟨b2, 0, none⟩)), (10, u), (11, um), (12, .slice (some ⟨bp, 0, none⟩) ws.length ws.length), (40, mv), (41, .int .i64 (m.length : Int)), (42, .int .i64 0)] fun TA => ?_
   refine W.block ?_
   refine W.loop (fun mm ta σ => ∃ (i : Nat) (F : Nat → Option Blk2) (us : List Value) (xss : List (List Value)), (mm + i = m.length) ∧ (Le F1 F) ∧ (∀ t, t < ws.length → AllZ F (xss.getD t []) (pieceC true (m.take i) s t)) ∧ (us.length = ws.length) ∧ (xss.length = ws.length) ∧ Lies G A F σ (.at_ bp (.row ⟨us, 49, false⟩) :: ((PE us xss ++ L))) ∧ ta 1 = .string ⟨s.toArray⟩ ∧ ta 2 = .bool true ∧ ta 8 = mv ∧ ta 9 = .pointer (some ⟨b2, 0, none⟩) ∧ ta 10 = u ∧ ta 11 = um ∧ ta 12 = .slice (some ⟨bp, 0, none⟩) ws.length ws.length ∧ ta 40 = mv ∧ ta 41 = .int .i64 (m.length : Int) ∧ ta 42 = .int .i64 ((i : Nat) : Int)) m.length ?_ ?_
   ·exact ⟨0, F, (List.replicate ws.length (.slice none 0 0)), (List.replicate ws.length []), (by omega), le1, (fun t ht => by rw [getD_rep]; exact AllZ.nil), (List.length_replicate ..), (List.length_replicate ..), H, rfl, rfl, rfl, rfl, rfl, rfl, rfl, rfl, rfl, rfl⟩
   clear H
   rintro mm ta _ ⟨i, F, us, xss, hmi, le1, hA, hu1, hx1, H, e1, e2, e8, e9, e10, e11, e12, e40, e41, e42⟩
   refine W.rst [(1, .string ⟨s.toArray⟩), (2, .bool true), (8, mv), (9, .pointer (some ⟨b2, 0, none⟩)), (10, u), (11, um), (12, .slice (some ⟨bp, 0, none⟩) ws.length ws.length), (40, mv), (41, .int .i64 (m.length : Int)), (42, .int .i64 ((i : Nat) : Int))] ⟨e1, e2, e8, e9, e10, e11, e12, e40, e41, e42, trivial⟩ fun TA => ?_
   clear e1 e2 e8 e9 e10 e11 e12 e40 e41 e42
   refine W.seq (W.region ?_)
   refine RW.v ?_
   refine RW.nil ?_
   refine W.rg [(1, .string ⟨s.toArray⟩), (2, .bool true), (8, mv), (9, .pointer (some ⟨b2, 0, none⟩)), (10, u), (11, um), (12, .slice (some ⟨bp, 0, none⟩) ws.length ws.length), (40, mv), (41, .int .i64 (m.length : Int)), (42, .int .i64 ((i : Nat) : Int)), (43, .bool (decide (((i : Nat) : Int) < (m.length : Int))))] fun TA => ?_
   refine W.seq ?_
   refine W.cond rfl (fun hc5 => ?_) (fun hc5 => ?_)
   ·have hc5b := hc5
    have hc5 := of_decide_eq_true hc5
    have him : i < m.length := by omega
    refine W.skip ?_
    refine W.seq ?_
    refine W.block ?_
    refine W.seq (W.region ?_)
    refine RW.idxF (hmv.le le1) (by kernel_rfl) (by kernel_rfl) rfl Tryd.underlying22 (by kernel_rfl) rfl rfl ⟨by omega, by omega⟩ (by kernel_rfl) ?_
    intro b6 q7 r8 hF9 hE10
    rw [strs_at (l := m) (j := i) (i := ((i : Nat) : Int)) (by omega) (by omega)] at hE10
    refine RW.loads 1 (by kernel_rfl) (by kernel_rfl) rfl rfl (H.old _ _ hF9) hE10 rfl (by kernel_rfl) ?_
    refine RW.v ?_
    refine RW.nil ?_
    refine W.rg [(1, .string ⟨s.toArray⟩), (2, .bool true), (8, mv), (9, .pointer (some ⟨b2, 0, none⟩)), (10, u), (11, um), (12, .slice (some ⟨bp, 0, none⟩) ws.length ws.length), (14, .string ⟨(m.getD i []).toArray⟩), (40, mv), (41, .int .i64 (m.length : Int)), (42, .int .i64 ((i : Nat) : Int))] fun TA => ?_
    refine W.seq (W.region ?_)
    refine RW.loads 1 (by kernel_rfl) (by kernel_rfl) rfl rfl (H.old _ _ (le1 _ _ hb7)) rfl rfl (by kernel_rfl) ?_
    refine RW.v ?_
    refine RW.convR H (Nat.le_trans (hmm _ (mem_of him)) (by decide)) (by kernel_rfl) (by kernel_rfl) rfl rfl rfl rfl rfl (by kernel_rfl) ?_
    clear H; intro _ cw11 H
    obtain ⟨F, le, hk12, H⟩ := H.freezeK 0 rfl
    dsimp only [setL, delL] at H
    replace le1 := fun b y h => le b y (le1 b y h)
    replace hA := fun t ht => (hA t ht).le le
    iterate 2 refine RW.v ?_
    refine RW.cl ?_
    refine ((match_wc (fold := true) hk12 (hu.le le1) (al.le le1) (hum.le le1).slf (Nat.le_trans (runes_le _) (Nat.le_trans (hmm _ (mem_of him)) (by decide))) (by omega) hwm (runes_in _) hwb H).mono ?_)
    clear H
    rintro _ _ ⟨F, cv, cs, le, rfl, hcv, alr, H⟩
    replace le1 := fun b y h => le b y (le1 b y h)
    replace hA := fun t ht => (hA t ht).le le
    replace hk12 := hk12.le le
    obtain ⟨r, hr⟩ : ∃ r, r = (matchC true (runes (m.getD i [])) (runes s)).getD [] := ⟨_, rfl⟩
    have hme : matchG true (runes (m.getD i [])) ws ms = matchC true (runes (m.getD i [])) (runes s) := by rw [hws, hms]; rfl
    rw [hme, ← hr] at hcv alr
    have hrw : r.length = ws.length := by rw [hr, hws]; exact piece_len (by rw [hm] at him ⊢; exact (partC_good.1 _ (mem_of him)).2)
    iterate 5 refine RW.v ?_
    refine RW.nil ?_
    refine W.rg [(1, .string ⟨s.toArray⟩), (2, .bool true), (8, mv), (9, .pointer (some ⟨b2, 0, none⟩)), (10, u), (11, um), (12, .slice (some ⟨bp, 0, none⟩) ws.length ws.length), (15, cv), (40, mv), (41, .int .i64 (m.length : Int)), (42, .int .i64 ((i : Nat) : Int))] fun TA => ?_
    refine W.seq (W.region ?_)
    refine RW.v ?_
    refine RW.len (by kernel_rfl) (by kernel_rfl) rfl rfl rfl rfl (hcv.slf.len (e := 50) (by kernel_rfl)) (by kernel_rfl) ?_
    refine RW.v ?_
    refine RW.nil ?_
    refine W.rg [(1, .string ⟨s.toArray⟩), (2, .bool true), (8, mv), (9, .pointer (some ⟨b2, 0, none⟩)), (10, u), (11, um), (12, .slice (some ⟨bp, 0, none⟩) ws.length ws.length), (40, mv), (41, .int .i64 (m.length : Int)), (42, .int .i64 ((i : Nat) : Int)), (55, cv), (56, .int .i64 (r.length : Int)), (57, .int .i64 0)] fun TA => ?_
    refine W.block ?_
    refine W.loop (fun mm2 ta σ => ∃ (j : Nat) (us : List Value) (xss : List (List Value)), (mm2 + j = r.length) ∧ (∀ t, t < ws.length → AllZ F (xss.getD t []) (pieceC true (m.take (if t < j then i + 1 else i)) s t)) ∧ (us.length = ws.length) ∧ (xss.length = ws.length) ∧ Lies G A F σ (.at_ bp (.row ⟨us, 49, false⟩) :: ((PE us xss ++ L))) ∧ ta 1 = .string ⟨s.toArray⟩ ∧ ta 2 = .bool true ∧ ta 8 = mv ∧ ta 9 = .pointer (some ⟨b2, 0, none⟩) ∧ ta 10 = u ∧ ta 11 = um ∧ ta 12 = .slice (some ⟨bp, 0, none⟩) ws.length ws.length ∧ ta 40 = mv ∧ ta 41 = .int .i64 (m.length : Int) ∧ ta 42 = .int .i64 ((i : Nat) : Int) ∧ ta 55 = cv ∧ ta 56 = .int .i64 (r.length : Int) ∧ ta 57 = .int .i64 ((j : Nat) : Int)) r.length ?_ ?_
    ·exact ⟨0, us, xss, (by omega), (fun t ht => by rw [if_neg (by omega)]; exact hA t ht), hu1, hx1, H, rfl, rfl, rfl, rfl, rfl, rfl, rfl, rfl, rfl, rfl, rfl, rfl, rfl⟩
    clear H
    rintro mm2 ta _ ⟨j, us, xss, hm2, hA, hu1, hx1, H, e1, e2, e8, e9, e10, e11, e12, e40, e41, e42, e55, e56, e57⟩
    refine W.rst [(1, .string ⟨s.toArray⟩), (2, .bool true), (8, mv), (9, .pointer (some ⟨b2, 0, none⟩)), (10, u), (11, um), (12, .slice (some ⟨bp, 0, none⟩) ws.length ws.length), (40, mv), (41, .int .i64 (m.length : Int)), (42, .int .i64 ((i : Nat) : Int)), (55, cv), (56, .int .i64 (r.length : Int)), (57, .int .i64 ((j : Nat) : Int))] ⟨e1, e2, e8, e9, e10, e11, e12, e40, e41, e42, e55, e56, e57, trivial⟩ fun TA => ?_
    clear e1 e2 e8 e9 e10 e11 e12 e40 e41 e42 e55 e56 e57
    refine W.seq (W.region ?_)
    refine RW.v ?_
    refine RW.nil ?_
    refine W.rg [(1, .string ⟨s.toArray⟩), (2, .bool true), (8, mv), (9, .pointer (some ⟨b2, 0, none⟩)), (10, u), (11, um), (12, .slice (some ⟨bp, 0, none⟩) ws.length ws.length), (40, mv), (41, .int .i64 (m.length : Int)), (42, .int .i64 ((i : Nat) : Int)), (55, cv), (56, .int .i64 (r.length : Int)), (57, .int .i64 ((j : Nat) : Int)), (58, .bool (decide (((j : Nat) : Int) < (r.length : Int))))] fun TA => ?_
    refine W.seq ?_
    refine W.cond rfl (fun hc13 => ?_) (fun hc13 => ?_)
    ·have hc13b := hc13
     have hc13 := of_decide_eq_true hc13
     have hjr : j < r.length := by omega
     refine W.skip ?_
     refine W.seq ?_
     refine W.block ?_
     refine W.seq (W.region ?_)
     refine RW.v ?_
     refine RW.idxF hcv.slf (by kernel_rfl) (by kernel_rfl) rfl Tryd.underlying49 (by kernel_rfl) rfl rfl ⟨by omega, by omega⟩ (by kernel_rfl) ?_
     intro b14 q15 r16 hF17 hE18
     rw [vals_at (l := cs) (j := j) (i := ((j : Nat) : Int)) (by omega) (by have := alr.1; omega)] at hE18
     refine RW.loads 1 (by kernel_rfl) (by kernel_rfl) rfl rfl (H.old _ _ hF17) hE18 rfl (by kernel_rfl) ?_
     iterate 2 refine RW.v ?_
     refine RW.nil ?_
     refine W.rg [(1, .string ⟨s.toArray⟩), (2, .bool true), (8, mv), (9, .pointer (some ⟨b2, 0, none⟩)), (10, u), (11, um), (12, .slice (some ⟨bp, 0, none⟩) ws.length ws.length), (17, .int .i64 ((j : Nat) : Int)), (18, (cs.getD j undef)), (40, mv), (41, .int .i64 (m.length : Int)), (42, .int .i64 ((i : Nat) : Int)), (55, cv), (56, .int .i64 (r.length : Int)), (57, .int .i64 ((j : Nat) : Int))] fun TA => ?_
     refine W.region ?_
     iterate 4 refine RW.v ?_
     have hxj : (xss.getD j []).length = i := by rw [(hA j (by omega)).1, pieceC, List.length_map, if_neg (Nat.lt_irrefl _), List.length_take]; omega
     replace H := H.perm (pe_pick (j := j) (by omega) (hu1.trans hx1.symm))
     refine RW.idxE (s := 1) (by kernel_rfl) (by kernel_rfl) rfl Tryd.underlying53 (by kernel_rfl) rfl rfl ⟨by omega, by omega⟩ (by kernel_rfl) ?_
     intro q19 q19e
     have q19j : q19 = j := by rw [q19e]; omega
     rw [q19j]
     clear q19e q19j
     have hgf := gr_forms (H.sl 1 rfl)
     refine RW.ldL H 0 1 (cs := [(us.getD j undef)]) (v := (us.getD j undef)) (by kernel_rfl) (by kernel_rfl) rfl rfl rfl (us_at (show j < us.length by omega)) (by rcases hgf with h | ⟨_, _, _, h⟩ <;> rw [h] <;> kernel_rfl) (by kernel_rfl) ?_
     refine RW.v ?_
     refine RW.mkL H (x := .row ⟨[(cs.getD j undef)], 50, false⟩) (fm := fun b => .slice (some ⟨b, 0, none⟩) 1 1) (by kernel_rfl) (by kernel_rfl) (by rcases slf_forms (alr.2 j (by omega)).slf with e0 | ⟨_, e0⟩ | ⟨_, _, _, _, _, e0⟩ <;> rw [e0] <;> kernel_rfl) (by kernel_rfl) ?_
     clear H; intro _ b20 _ H
     refine RW.appL H 2 0 (n := 1) (e2 := 50) (by kernel_rfl) (by kernel_rfl) rfl rfl rfl rfl rfl rfl rfl rfl (by kernel_rfl) (by kernel_rfl) (by kernel_rfl) (by decide) (by decide) rfl (slf_all (alr.2 j (by omega)).slf) (by omega) (by kernel_rfl) ?_
     clear H; intro _ v21 _ H
     dsimp only [setL, delL] at H
     refine RW.idxE (s := 1) (by kernel_rfl) (by kernel_rfl) rfl Tryd.underlying53 (by kernel_rfl) rfl rfl ⟨by omega, by omega⟩ (by kernel_rfl) ?_
     intro q22 q22e
     have q22j : q22 = j := by rw [q22e]; omega
     rw [q22j]
     clear q22e q22j
     have hgf2 := gr_forms (H.sl 1 rfl)
     refine RW.stE H 0 rfl (vs := [v21]) (by show j + 1 ≤ us.length; omega) (by kernel_rfl) (by kernel_rfl) rfl rfl ((H.sl 1 rfl).one) (by rcases hgf2 with h | ⟨_, _, _, h⟩ <;> rw [h] <;> rfl) (by kernel_rfl) (by kernel_rfl) ?_
     clear H; intro _ H
     dsimp only [setL] at H
     rw [overL_one (show j < us.length by omega), show (xss.getD j []).length + 1 = ((xss.getD j []) ++ [(cs.getD j undef)]).length by rw [List.length_append]; rfl] at H
     replace H := H.perm (pe_put (us := us) (xss := xss) (j := j) (by omega) (hu1.trans hx1.symm))
     refine RW.nil ?_
     refine blkQ_normal ?_
     refine W.rg [(1, .string ⟨s.toArray⟩), (2, .bool true), (8, mv), (9, .pointer (some ⟨b2, 0, none⟩)), (10, u), (11, um), (12, .slice (some ⟨bp, 0, none⟩) ws.length ws.length), (40, mv), (41, .int .i64 (m.length : Int)), (42, .int .i64 ((i : Nat) : Int)), (55, cv), (56, .int .i64 (r.length : Int)), (57, .int .i64 ((j : Nat) : Int))] fun TA => ?_
     refine W.region ?_
     refine RW.valE (v' := .int .i64 (((j : Nat) : Int) + 1)) (by kernel_rfl) (by kernel_rfl) rfl (congrArg (Value.int .i64) (wrap_in (by omega) (by omega))) (by kernel_rfl) ?_
     refine RW.v ?_
     refine RW.nil ?_
     exact ⟨rfl, mm2 - 1, by omega, j + 1, (us.set j v21), (xss.set j ((xss.getD j []) ++ [(cs.getD j undef)])), (by omega), (pa_step hA (by omega) hx1 him (alr.2 j (by omega)) hr), (by rw [List.length_set]; exact hu1), (by rw [List.length_set]; exact hx1), H, rfl, rfl, rfl, rfl, rfl, rfl, rfl, rfl, rfl, rfl, rfl, rfl, rfl⟩
    ·have hc13b := hc13
     have hc13 := of_decide_eq_false hc13
     refine W.exit _ ?_
     refine seqQ_exit ?_
     refine rndQ_exit ?_
     replace hA : ∀ t, t < ws.length → AllZ F (xss.getD t []) (pieceC true (m.take (i + 1)) s t) := fun t ht => by have := hA t ht; rwa [if_pos (by omega)] at this
     refine blkQ_here ?_
     refine blkQ_normal ?_
     refine W.region ?_
     refine RW.valE (v' := .int .i64 (((i : Nat) : Int) + 1)) (by kernel_rfl) (by kernel_rfl) rfl (congrArg (Value.int .i64) (wrap_in (by omega) (by omega))) (by kernel_rfl) ?_
     refine RW.v ?_
     refine RW.nil ?_
     exact ⟨rfl, mm - 1, by omega, i + 1, F, us, xss, (by omega), le1, hA, hu1, hx1, H, rfl, rfl, rfl, rfl, rfl, rfl, rfl, rfl, rfl, rfl⟩
   ·have hc5b := hc5
    have hc5 := of_decide_eq_false hc5
    refine W.exit _ ?_
    refine seqQ_exit ?_
    refine rndQ_exit ?_
    rw [List.take_of_length_le (show m.length ≤ i by omega)] at hA
    obtain ⟨F, le, hrow, H⟩ := H.freezeR 0 rfl (n := ws.length) (s := 1) (by rw [hu1]; omega)
    dsimp only [setL, delL] at H
    replace le1 := fun b y h => le b y (le1 b y h)
    replace hA := fun t ht => (hA t ht).le le
    obtain ⟨F, le, hP, H⟩ := H.freezePE (hu1.trans hx1.symm)
    replace le1 := fun b y h => le b y (le1 b y h)
    replace hA := fun t ht => (hA t ht).le le
    replace hrow := hrow.le le
    rw [hu1] at hP
    obtain ⟨F2, hF2⟩ : ∃ F2, F2 = F := ⟨_, rfl⟩
    have le2 : Le F2 F := fun b y h => hF2 ▸ h
    rw [← hF2] at hA hrow hP
    clear hF2
    refine blkQ_here ?_
    refine W.seq (W.region ?_)
    refine RW.v ?_
    refine RW.nil ?_
    refine W.rg [(1, .string ⟨s.toArray⟩), (2, .bool true), (8, mv), (9, .pointer (some ⟨b2, 0, none⟩)), (11, um), (12, (.slice (some ⟨bp, 0, none⟩) ws.length ws.length)), (19, .slice none 0 0)] fun TA => ?_
    refine W.seq ?_
    refine W.seq (W.region ?_)
    refine RW.v ?_
    refine RW.len (by kernel_rfl) (by kernel_rfl) rfl rfl rfl rfl ((hrow.le le2).slf.len (e := 49) (by kernel_rfl)) (by kernel_rfl) ?_
    refine RW.v ?_
    refine RW.nil ?_
    refine W.rg [(1, .string ⟨s.toArray⟩), (2, .bool true), (8, mv), (9, .pointer (some ⟨b2, 0, none⟩)), (11, um), (19, .slice none 0 0), (74, (.slice (some ⟨bp, 0, none⟩) ws.length ws.length)), (75, .int .i64 (ws.length : Int)), (76, .int .i64 0)] fun TA => ?_
    refine W.block ?_
    replace H := H.nilSl 21 1
    refine W.loop (fun mm ta σ => ∃ (i : Nat) (F : Nat → Option Blk2) (v : Value) (out : List Int), (mm + i = ws.length) ∧ (Le F1 F) ∧ (Le F2 F) ∧ (out.length ≤ i * 61) ∧ (joinC true m s ws.length 0 = out ++ joinC true m s (ws.length - i) i) ∧ Lies G A F σ (.sl 21 1 v out.length (out.map runeV) :: (L)) ∧ ta 1 = .string ⟨s.toArray⟩ ∧ ta 2 = .bool true ∧ ta 8 = mv ∧ ta 9 = .pointer (some ⟨b2, 0, none⟩) ∧ ta 11 = um ∧ ta 19 = v ∧ ta 74 = (.slice (some ⟨bp, 0, none⟩) ws.length ws.length) ∧ ta 75 = .int .i64 (ws.length : Int) ∧ ta 76 = .int .i64 ((i : Nat) : Int)) ws.length ?_ ?_
    ·exact ⟨0, F, .slice none 0 0, [], (by omega), le1, le2, (Nat.zero_le _), rfl, H, rfl, rfl, rfl, rfl, rfl, rfl, rfl, rfl, rfl⟩
    clear H
    rintro mm ta _ ⟨i, F, v, out, hmi, le1, le2, hol, hT, H, e1, e2, e8, e9, e11, e19, e74, e75, e76⟩
    refine W.rst [(1, .string ⟨s.toArray⟩), (2, .bool true), (8, mv), (9, .pointer (some ⟨b2, 0, none⟩)), (11, um), (19, v), (74, (.slice (some ⟨bp, 0, none⟩) ws.length ws.length)), (75, .int .i64 (ws.length : Int)), (76, .int .i64 ((i : Nat) : Int))] ⟨e1, e2, e8, e9, e11, e19, e74, e75, e76, trivial⟩ fun TA => ?_
    clear e1 e2 e8 e9 e11 e19 e74 e75 e76
    refine W.seq (W.region ?_)
    refine RW.v ?_
    refine RW.nil ?_
    refine W.rg [(1, .string ⟨s.toArray⟩), (2, .bool true), (8, mv), (9, .pointer (some ⟨b2, 0, none⟩)), (11, um), (19, v), (74, (.slice (some ⟨bp, 0, none⟩) ws.length ws.length)), (75, .int .i64 (ws.length : Int)), (76, .int .i64 ((i : Nat) : Int)), (77, .bool (decide (((i : Nat) : Int) < (ws.length : Int))))] fun TA => ?_
    refine W.seq ?_
    refine W.cond rfl (fun hc23 => ?_) (fun hc23 => ?_)
    ·have hc23b := hc23
     have hc23 := of_decide_eq_true hc23
     have hiw : i < ws.length := by omega
     have hpl : (pieceC true m s i).length = m.length := List.length_map _
     have hxl : (xss.getD i []).length = (pieceC true m s i).length := (hA i (by omega)).1
     refine W.skip ?_
     refine W.seq ?_
     refine W.block ?_
     refine W.seq (W.region ?_)
     refine RW.v ?_
     refine RW.idxF (hrow.le le2).slf (by kernel_rfl) (by kernel_rfl) rfl Tryd.underlying53 (by kernel_rfl) rfl rfl ⟨by omega, by omega⟩ (by kernel_rfl) ?_
     intro b24 q25 r26 hF27 hE28
     rw [vals_at (l := us) (j := i) (i := ((i : Nat) : Int)) (by omega) (by omega)] at hE28
     refine RW.loads 1 (by kernel_rfl) (by kernel_rfl) rfl rfl (H.old _ _ hF27) hE28 rfl (by kernel_rfl) ?_
     iterate 2 refine RW.v ?_
     refine RW.nil ?_
     refine W.rg [(1, .string ⟨s.toArray⟩), (2, .bool true), (8, mv), (9, .pointer (some ⟨b2, 0, none⟩)), (11, um), (19, v), (20, .int .i64 ((i : Nat) : Int)), (21, (us.getD i undef)), (74, (.slice (some ⟨bp, 0, none⟩) ws.length ws.length)), (75, .int .i64 (ws.length : Int)), (76, .int .i64 ((i : Nat) : Int))] fun TA => ?_
     refine W.seq ?_
     refine W.drawn (by kernel_rfl) (by kernel_rfl) H.gn ?_
     have H29 := H
     refine RW.v ?_
     refine RW.loads 1 (by kernel_rfl) (by kernel_rfl) rfl rfl (H29.old _ _ (le1 _ _ hb7)) rfl rfl (by kernel_rfl) ?_
     refine RW.v ?_
     refine RW.idxF ((hP i (by omega)).le le2).slf (by kernel_rfl) (by kernel_rfl) rfl Tryd.underlying49 (by kernel_rfl) rfl rfl ⟨by omega, by omega⟩ (by kernel_rfl) ?_
     intro b30 q31 r32 hF33 hE34
     rw [vals_at (l := (xss.getD i [])) (j := 0) (i := 0) (by omega) (by have := ((hA i (by omega)).le le2).1; omega)] at hE34
     refine RW.loads 1 (by kernel_rfl) (by kernel_rfl) rfl rfl (H29.old _ _ hF33) hE34 rfl (by kernel_rfl) ?_
     refine RW.v ?_
     obtain ⟨sv35, hv36, hk37⟩ := slk_rest (P := Tryd.prog) (t := 49) (e := 50) (i := 1) ((hP i (by omega)).le le2) (by kernel_rfl) (by kernel_rfl) (by omega)
     rw [show ((1 : Nat) : Int) = 1 from by omega] at hv36
     rw [Nat.mul_one] at hk37
     refine RW.vop (v := sv35) (by kernel_rfl) (by kernel_rfl) (vop_slice rfl hv36) (by kernel_rfl) ?_
     have hrest : SlK F 1 sv35 ((pieceC true m s i).drop 1).length ((xss.getD i []).drop 1) := by rw [List.length_drop, ← hxl]; exact hk37
     have al1 := ((hA i (by omega)).le le2).drop 1
     have hpc : ∀ z ∈ (pieceC true m s i), z.length ≤ 60 ∧ ∀ c ∈ z, 0 ≤ c ∧ c ≤ 1114111 := piece_in hmm
     refine RW.cl ?_
     refine ((common_wc (fold := true) (xs := (pieceC true m s i).getD 0 []) (ls := (pieceC true m s i).drop 1) (((hA i (by omega)).le le2).2 0 (by omega)) hrest al1 (by have := (hpc _ (lst_mem (l := (pieceC true m s i)) (j := 0) (by omega))).1; omega) (by rw [List.length_drop]; omega) (hpc _ (lst_mem (by omega))).2 (fun y h => (hpc y (List.mem_of_mem_drop h)).2) H29).mono ?_)
     rintro cw _ ⟨hcw, H38⟩
     rw [← comC_ne (by omega)] at hcw
     have hcl : (comC true (pieceC true m s i)).length ≤ 60 := comT_len fun z hz => (hpc z hz).1
     refine RW.appFD H38 0 (e2 := 21) hcw.slf (by kernel_rfl) (by kernel_rfl) rfl rfl rfl rfl rfl rfl rfl (.inl rfl) (by kernel_rfl) (by kernel_rfl) (by kernel_rfl) (by decide) (runs_ones _) (by omega) (by kernel_rfl) ?_
     intro _ v39 H40
     dsimp only [setL] at H40
     refine RW.v ?_
     refine RW.nil ?_
     refine ⟨⟨by kernel_rfl, ⟨trivial, dyn_row (H29.old _ _ (le1 _ _ hb7)) (H40.old _ _ (le1 _ _ hb7)) ⟨fun h => Bool.noConfusion h, fun h => Bool.noConfusion h, fun h => Bool.noConfusion h, fun h => Bool.noConfusion h, fun h => Bool.noConfusion h, fun h => Bool.noConfusion h, fun h => Bool.noConfusion h, fun _ => H29.old _ _ (le1 _ _ hb7), fun _ => H38.old _ _ (le1 _ _ hb7), fun h => Bool.noConfusion h, trivial⟩, trivial, trivial, dyn_row (H29.old _ _ hF33) (H40.old _ _ hF33) ⟨fun h => Bool.noConfusion h, fun h => Bool.noConfusion h, fun h => Bool.noConfusion h, fun h => Bool.noConfusion h, fun h => Bool.noConfusion h, fun h => Bool.noConfusion h, fun h => Bool.noConfusion h, fun _ => H29.old _ _ hF33, fun _ => H38.old _ _ hF33, fun h => Bool.noConfusion h, trivial⟩, trivial, trivial, trivial, trivial, trivial, trivial⟩⟩, ?_⟩
     replace H := H40
     clear H29 H38 H40
     refine W.rg [(1, .string ⟨s.toArray⟩), (2, .bool true), (8, mv), (9, .pointer (some ⟨b2, 0, none⟩)), (11, um), (19, v39), (20, .int .i64 ((i : Nat) : Int)), (74, (.slice (some ⟨bp, 0, none⟩) ws.length ws.length)), (75, .int .i64 (ws.length : Int)), (76, .int .i64 ((i : Nat) : Int))] fun TA => ?_
     refine W.seq (W.region ?_)
     iterate 2 refine RW.v ?_
     refine RW.len (by kernel_rfl) (by kernel_rfl) rfl rfl rfl rfl ((hum.le le1).slf.len (e := 21) (by kernel_rfl)) (by kernel_rfl) ?_
     refine RW.v ?_
     refine RW.nil ?_
     refine W.rg [(1, .string ⟨s.toArray⟩), (2, .bool true), (8, mv), (9, .pointer (some ⟨b2, 0, none⟩)), (11, um), (19, v39), (20, .int .i64 ((i : Nat) : Int)), (74, (.slice (some ⟨bp, 0, none⟩) ws.length ws.length)), (75, .int .i64 (ws.length : Int)), (76, .int .i64 ((i : Nat) : Int)), (93, .bool (decide (((i : Nat) : Int) < (ms.length : Int))))] fun TA => ?_
     refine W.cond rfl (fun hc41 => ?_) (fun hc41 => ?_)
     ·have hc41b := hc41
      have hc41 := of_decide_eq_true hc41
      refine W.region ?_
      iterate 3 refine RW.v ?_
      refine RW.idxF (hum.le le1).slf (by kernel_rfl) (by kernel_rfl) rfl Tryd.underlying50 (by kernel_rfl) rfl rfl ⟨by omega, by omega⟩ (by kernel_rfl) ?_
      intro b42 q43 r44 hF45 hE46
      rw [runs_at (l := ms) (j := i) (i := ((i : Nat) : Int)) (by omega) (by omega)] at hE46
      refine RW.loads 1 (by kernel_rfl) (by kernel_rfl) rfl rfl (H.old _ _ hF45) hE46 rfl (by kernel_rfl) ?_
      refine RW.mkL H (x := .row ⟨[.int .i32 (ms.getD i 0)], 21, false⟩) (fm := fun b => .slice (some ⟨b, 0, none⟩) 1 1) (by kernel_rfl) (by kernel_rfl) (by kernel_rfl) (by kernel_rfl) ?_
      clear H; intro _ b47 _ H
      refine RW.appL H 1 0 (n := 1) (e2 := 21) (by kernel_rfl) (by kernel_rfl) rfl rfl rfl rfl rfl rfl rfl rfl (by kernel_rfl) (by kernel_rfl) (by kernel_rfl) (by decide) (by decide) rfl rfl (by omega) (by kernel_rfl) ?_
      clear H; intro _ v48 _ H
      dsimp only [setL, delL] at H
      refine RW.v ?_
      refine RW.nil ?_
      refine blkQ_normal ?_
      refine W.rg [(1, .string ⟨s.toArray⟩), (2, .bool true), (8, mv), (9, .pointer (some ⟨b2, 0, none⟩)), (11, um), (19, v48), (74, (.slice (some ⟨bp, 0, none⟩) ws.length ws.length)), (75, .int .i64 (ws.length : Int)), (76, .int .i64 ((i : Nat) : Int))] fun TA => ?_
      refine W.region ?_
      refine RW.valE (v' := .int .i64 (((i : Nat) : Int) + 1)) (by kernel_rfl) (by kernel_rfl) rfl (congrArg (Value.int .i64) (wrap_in (by omega) (by omega))) (by kernel_rfl) ?_
      refine RW.v ?_
      refine RW.nil ?_
      rw [show out.length + (comC true (pieceC true m s i)).length + 1 = (out ++ comC true (pieceC true m s i) ++ [ms.getD i 0]).length by rw [List.length_append, List.length_append]; rfl, show out.map runeV ++ (comC true (pieceC true m s i)).map runeV ++ [.int .i32 (ms.getD i 0)] = (out ++ comC true (pieceC true m s i) ++ [ms.getD i 0]).map runeV by rw [List.map_append, List.map_append]; rfl] at H
      exact ⟨rfl, mm - 1, by omega, i + 1, F, v48, (out ++ comC true (pieceC true m s i) ++ [ms.getD i 0]), (by omega), le1, le2, (by rw [List.length_append, List.length_append]; simp only [List.length_cons, List.length_nil]; omega), (by rw [hT, join_step hiw, ← hms, if_pos (by omega), ← List.append_assoc, ← List.append_assoc]), H, rfl, rfl, rfl, rfl, rfl, rfl, rfl, rfl, rfl⟩
     ·have hc41b := hc41
      have hc41 := of_decide_eq_false hc41
      refine W.skip ?_
      refine blkQ_normal ?_
      refine W.region ?_
      refine RW.valE (v' := .int .i64 (((i : Nat) : Int) + 1)) (by kernel_rfl) (by kernel_rfl) rfl (congrArg (Value.int .i64) (wrap_in (by omega) (by omega))) (by kernel_rfl) ?_
      refine RW.v ?_
      refine RW.nil ?_
      rw [show out.length + (comC true (pieceC true m s i)).length = (out ++ comC true (pieceC true m s i) ++ []).length by rw [List.append_nil, List.length_append], show out.map runeV ++ (comC true (pieceC true m s i)).map runeV = (out ++ comC true (pieceC true m s i) ++ []).map runeV by rw [List.append_nil, List.map_append]] at H
      exact ⟨rfl, mm - 1, by omega, i + 1, F, v39, (out ++ comC true (pieceC true m s i) ++ []), (by omega), le1, le2, (by rw [List.length_append, List.length_append]; simp only [List.length_cons, List.length_nil]; omega), (by rw [hT, join_step hiw, ← hms, if_neg (by omega), ← List.append_assoc, ← List.append_assoc]), H, rfl, rfl, rfl, rfl, rfl, rfl, rfl, rfl, rfl⟩
    ·have hc23b := hc23
     have hc23 := of_decide_eq_false hc23
     refine W.exit _ ?_
     refine seqQ_exit ?_
     refine rndQ_exit ?_
     have hJ : joinC true m s ws.length 0 = out := by rw [hT, show ws.length - i = 0 by omega]; exact List.append_nil _
     obtain ⟨F, le, hout, H⟩ := H.freezeK 0 rfl
     dsimp only [setL, delL] at H
     replace le1 := fun b y h => le b y (le1 b y h)
     replace le2 := fun b y h => le b y (le2 b y h)
     refine blkQ_here ?_
     refine W.seq ?_
     refine W.drawn (by kernel_rfl) (by kernel_rfl) H.gn ?_
     have H49 := H
     refine RW.v ?_
     by_cases hz : out = []
     ·rw [hz] at hout
      refine RW.vop (v := .string ⟨(encA []).toArray⟩) (by kernel_rfl) (by kernel_rfl) (vop_backZ hout rfl rfl rfl rfl rfl) (by kernel_rfl) ?_
      iterate 3 refine RW.v ?_
      refine RW.cl ?_
      refine ((status_wc (fold := true) (hmv.le le1) hml (fun x hx => Nat.le_trans (hmm x hx) (by decide)) (Nat.le_trans hs (by decide)) H49).mono ?_)
      rintro _ _ ⟨rfl, H50⟩
      iterate 2 refine RW.v ?_
      refine RW.nil ?_
      refine ⟨⟨by kernel_rfl, ⟨trivial, trivial, trivial, trivial, trivial, trivial, trivial, trivial, trivial⟩⟩, ?_⟩
      replace H := H50
      clear H49 H50
      refine W.ret ?_
      refine endG (by rfl) (by exact resL_tmp (by exact resL_tmp rfl)) ?_
      rw [show tryP true l s = encA [] by unfold tryP; rw [← hm, if_neg (fun e => by rw [e] at hmpos; exact absurd hmpos (Nat.lt_irrefl _)), ← hws, hJ, hz]]
      exact ⟨rfl, (H).back (fun b y h => le1 b y (le01 b y h))⟩
     ·have hob : ∀ c ∈ out, chB c = true := by rw [← hJ, hm, hws]; exact join_chars
      refine RW.backR H49 hout.slf hob hz (by kernel_rfl) (by kernel_rfl) rfl rfl rfl rfl rfl (by kernel_rfl) ?_
      intro b51 q52 r53 hF54 hE55
      iterate 3 refine RW.v ?_
      refine RW.cl ?_
      refine ((status_wc (fold := true) (hmv.le le1) hml (fun x hx => Nat.le_trans (hmm x hx) (by decide)) (Nat.le_trans hs (by decide)) H49).mono ?_)
      rintro _ _ ⟨rfl, H56⟩
      iterate 2 refine RW.v ?_
      refine RW.nil ?_
      refine ⟨⟨by kernel_rfl, ⟨trivial, dyn_row (H49.old _ _ hF54) (H56.old _ _ hF54) ⟨fun h => Bool.noConfusion h, fun h => Bool.noConfusion h, fun h => Bool.noConfusion h, fun h => Bool.noConfusion h, fun h => Bool.noConfusion h, fun _ => H49.old _ _ hF54, fun h => Bool.noConfusion h, fun h => Bool.noConfusion h, trivial⟩, trivial, trivial, trivial, trivial, trivial, trivial, trivial⟩⟩, ?_⟩
      replace H := H56
      clear H49 H56
      refine W.ret ?_
      refine endG (by rfl) (by exact resL_tmp (by exact resL_tmp rfl)) ?_
      rw [show tryP true l s = encA out by unfold tryP; rw [← hm, if_neg (fun e => by rw [e] at hmpos; exact absurd hmpos (Nat.lt_irrefl _)), ← hws, hJ]]
      exact ⟨rfl, (H).back (fun b y h => le1 b y (le01 b y h))⟩
 | false =>
  obtain ⟨F0, hF⟩ : ∃ F0, F0 = F := ⟨_, rfl⟩
  have le0 : Le F0 F := fun b y h => hF ▸ h
  rw [← hF] at h1 hU ⊢
  refine WC.enter (fn := Tryd.f13) Tryd.func13 rfl ?_
  refine W.rg [(0, v1), (1, .string ⟨s.toArray⟩), (2, .bool false)] fun TA => ?_
  refine W.seq (W.region ?_)
  iterate 2 refine RW.v ?_
  refine RW.nil ?_
  refine W.rg [(0, v1), (1, .string ⟨s.toArray⟩), (2, .bool false)] fun TA => ?_
  refine W.seq (W.region ?_)
  iterate 3 refine RW.v ?_
  refine RW.cl ?_
  refine ((Partial_wc (fold := false) (hU.le le0) h16 (h1.le le0) hl (fun x hx => Nat.le_trans (hsm x hx) (by decide)) hs H).mono ?_)
  clear H
  rintro mv _ ⟨F, le, hmv, H⟩
  replace le0 := fun b y h => le b y (le0 b y h)
  obtain ⟨m, hm⟩ : ∃ m, m = partC false l s := ⟨_, rfl⟩
  rw [← hm] at hmv ⊢
  have hml : m.length ≤ 1000000 := by rw [hm]; exact Nat.le_trans partC_len hl
  have hmm : ∀ x ∈ m, x.length ≤ 60 := fun x hx => by rw [hm] at hx; exact hsm x (partC_good.1 x hx).1.2
  refine RW.v ?_
  refine RW.nil ?_
  refine W.rg [(1, .string ⟨s.toArray⟩), (2, .bool false), (8, mv)] fun TA => ?_
  refine W.seq ?_
  refine W.seq (W.region ?_)
  refine RW.v ?_
  refine RW.len (by kernel_rfl) (by kernel_rfl) rfl rfl rfl rfl (hmv.len (e := 9) (by kernel_rfl)) (by kernel_rfl) ?_
  refine RW.v ?_
  refine RW.nil ?_
  refine W.rg [(1, .string ⟨s.toArray⟩), (2, .bool false), (8, mv), (28, .bool ((m.length : Int) == 0))] fun TA => ?_
  refine W.cond rfl (fun hc1 => ?_) (fun hc1 => ?_)
  ·have hc1b := hc1
   have hc1 := eq_of_beq hc1
   have hm0 : m = [] := List.eq_nil_of_length_eq_zero (by omega)
   refine W.seq (W.region ?_)
   iterate 2 refine RW.v ?_
   refine RW.nil ?_
   refine W.ret ?_
   refine seqQ_ret ?_
   refine endG (by rfl) (by exact resL_tmp (by exact resL_tmp rfl)) ?_
   rw [show tryP false l s = [] by unfold tryP; rw [← hm, if_pos hm0], show statusC false m s = 0 by rw [hm0]; rfl]
   exact ⟨rfl, (H).back le0⟩
  ·have hc1b := hc1
   have hc1 := ne_of_beq_false hc1
   have hmpos : 0 < m.length := by omega
   refine W.skip ?_
   refine W.seq (W.region ?_)
   refine RW.v ?_
   refine RW.cl ?_
   refine ((by_wc (fold := false) H).mono ?_)
   clear H
   rintro _ _ ⟨rfl, H⟩
   refine RW.mk H (.row ⟨[.nilFunc], 47, false⟩) ?_
   clear H; intro _ b2 _ H
   refine RW.st H 0 [.func (.func 86) #[] #[]] [.func (.func 86) #[] #[]] ?_
   clear H; intro _ _ H; dsimp only [setL, delL] at H
   refine RW.nil ?_
   refine W.rg [(1, .string ⟨s.toArray⟩), (2, .bool false), (8, mv), (9, .pointer (some ⟨b2, 0, none⟩))] fun TA => ?_
   refine W.seq (W.region ?_)
   refine RW.v ?_
   refine RW.convR H (Nat.le_trans hs (by decide)) (by kernel_rfl) (by kernel_rfl) rfl rfl rfl rfl rfl (by kernel_rfl) ?_
   clear H; intro _ cv3 H
   obtain ⟨F, le, hk4, H⟩ := H.freezeK 0 rfl
   dsimp only [setL, delL] at H
   replace le0 := fun b y h => le b y (le0 b y h)
   replace hmv := hmv.le le
   refine RW.cl ?_
   refine ((parts_wc hk4 (Nat.le_trans (runes_le s) (Nat.le_trans hs (by decide))) H).mono ?_)
   clear H
   rintro _ _ ⟨F, u, um, wsl, le, rfl, hu, al, hum, H⟩
   replace le0 := fun b y h => le b y (le0 b y h)
   replace hmv := hmv.le le
   replace hk4 := hk4.le le
   obtain ⟨ws, hws⟩ : ∃ ws, ws = (partsC (runes s)).1 := ⟨_, rfl⟩
   obtain ⟨ms, hms⟩ : ∃ ms, ms = (partsC (runes s)).2 := ⟨_, rfl⟩
   rw [← hws] at hu al
   rw [← hms] at hum
   have hwm : ws.length = ms.length + 1 := by rw [hws, hms]; exact partsG_len _ _
   have hmr : ms.length ≤ (runes s).length := by rw [hms]; exact partsG_small _ _
   have hwb : ∀ w ∈ ws, ∀ x ∈ w, 0 ≤ x ∧ x ≤ 1114111 := fun w hw x hx => by rw [hws] at hw; exact ((partsG_mem (runes s) []).1 w hw x hx).elim (fun h => absurd h (List.not_mem_nil)) (runes_in s x)
   have hmb : ∀ x ∈ ms, 0 ≤ x ∧ x ≤ 1114111 := fun x hx => by rw [hms] at hx; exact runes_in s x ((partsG_mem (runes s) []).2 x hx)
   have hrs : (runes s).length ≤ 16000 := Nat.le_trans (runes_le s) hs
   iterate 5 refine RW.v ?_
   refine RW.nil ?_
   refine W.rg [(1, .string ⟨s.toArray⟩), (2, .bool false), (8, mv), (9, .pointer (some ⟨b2, 0, none⟩)), (10, u), (11, um)] fun TA => ?_
   refine W.seq (W.region ?_)
   refine RW.v ?_
   refine RW.len (by kernel_rfl) (by kernel_rfl) rfl rfl rfl rfl (hu.slf.len (e := 50) (by kernel_rfl)) (by kernel_rfl) ?_
   obtain ⟨F, le, hb7, H⟩ := H.freeze 0 rfl
   dsimp only [setL, delL] at H
   replace le0 := fun b y h => le b y (le0 b y h)
   replace hmv := hmv.le le
   replace hk4 := hk4.le le
   replace hu := hu.le le
   replace al := al.le le
   replace hum := hum.le le
   refine RW.mkS H (e := 49) (n := ws.length) (z := .slice none 0 0) (by kernel_rfl) (by kernel_rfl) rfl rfl rfl (by kernel_rfl) (by kernel_rfl) (by kernel_rfl) (by kernel_rfl) rfl rfl (by omega) (by kernel_rfl) rfl ?_
   clear H; intro _ bp H
   replace H := H.nilsP ws.length
   obtain ⟨F1, hF1⟩ : ∃ F1, F1 = F := ⟨_, rfl⟩
   have le1 : Le F1 F := fun b y h => hF1 ▸ h
   have le01 : Le F0 F1 := by rw [hF1]; exact le0
   rw [← hF1] at hb7 hu al hum hmv
   clear hF1 le0
   refine RW.v ?_
   refine RW.nil ?_
   refine W.rg [(1, .string ⟨s.toArray⟩), (2, .bool false), (8, mv), (9, .pointer (some ⟨b2, 0, none⟩)), (10, u), (11, um), (12, .slice (some ⟨bp, 0, none⟩) ws.length ws.length)] fun TA => ?_
   refine W.seq ?_
   refine W.seq (W.region ?_)
   refine RW.v ?_
   refine RW.len (by kernel_rfl) (by kernel_rfl) rfl rfl rfl rfl ((hmv.le le1).len (e := 9) (by kernel_rfl)) (by kernel_rfl) ?_
   refine RW.v ?_
   refine RW.nil ?_
   refine W.rg [(1, .string ⟨s.toArray⟩), (2, .bool false), (8, mv), (9, .pointer (some ⟨b2, 0, none⟩)), (10, u), (11, um), (12, .slice (some ⟨bp, 0, none⟩) ws.length ws.length), (40, mv), (41, .int .i64 (m.length : Int)), (42, .int .i64 0)] fun TA => ?_
   refine W.block ?_
   refine W.loop (fun mm ta σ => ∃ (i : Nat) (F : Nat → Option Blk2) (us : List Value) (xss : List (List Value)), (mm + i = m.length) ∧ (Le F1 F) ∧ (∀ t, t < ws.length → AllZ F (xss.getD t []) (pieceC false (m.take i) s t)) ∧ (us.length = ws.length) ∧ (xss.length = ws.length) ∧ Lies G A F σ (.at_ bp (.row ⟨us, 49, false⟩) :: ((PE us xss ++ L))) ∧ ta 1 = .string ⟨s.toArray⟩ ∧ ta 2 = .bool false ∧ ta 8 = mv ∧ ta 9 = .pointer (some ⟨b2, 0, none⟩) ∧ ta 10 = u ∧ ta 11 = um ∧ ta 12 = .slice (some ⟨bp, 0, none⟩) ws.length ws.length ∧ ta 40 = mv ∧ ta 41 = .int .i64 (m.length : Int) ∧ ta 42 = .int .i64 ((i : Nat) : Int)) m.length ?_ ?_
   ·exact ⟨0, F, (List.replicate ws.length (.slice none 0 0)), (List.replicate ws.length []), (by omega), le1, (fun t ht => by rw [getD_rep]; exact AllZ.nil), (List.length_replicate ..), (List.length_replicate ..), H, rfl, rfl, rfl, rfl, rfl, rfl, rfl, rfl, rfl, rfl⟩
   clear H
   rintro mm ta _ ⟨i, F, us, xss, hmi, le1, hA, hu1, hx1, H, e1, e2, e8, e9, e10, e11, e12, e40, e41, e42⟩
   refine W.rst [(1, .string ⟨s.toArray⟩), (2, .bool false), (8, mv), (9, .pointer (some ⟨b2, 0, none⟩)), (10, u), (11, um), (12, .slice (some ⟨bp, 0, none⟩) ws.length ws.length), (40, mv), (41, .int .i64 (m.length : Int)), (42, .int .i64 ((i : Nat) : Int))] ⟨e1, e2, e8, e9, e10, e11, e12, e40, e41, e42, trivial⟩ fun TA => ?_
   clear e1 e2 e8 e9 e10 e11 e12 e40 e41 e42
   refine W.seq (W.region ?_)
   refine RW.v ?_
   refine RW.nil ?_
   refine W.rg [(1, .string ⟨s.toArray⟩), (2, .bool false), (8, mv), (9, .pointer (some ⟨b2, 0, none⟩)), (10, u), (11, um), (12, .slice (some ⟨bp, 0, none⟩) ws.length ws.length), (40, mv), (41, .int .i64 (m.length : Int)), (42, .int .i64 ((i : Nat) : Int)), (43, .bool (decide (((i : Nat) : Int) < (m.length : Int))))] fun TA => ?_
   refine W.seq ?_
   refine W.cond rfl (fun hc5 => ?_) (fun hc5 => ?_)
   ·have hc5b := hc5
    have hc5 := of_decide_eq_true hc5
    have him : i < m.length := by omega
    refine W.skip ?_
    refine W.seq ?_
    refine W.block ?_
    refine W.seq (W.region ?_)
    refine RW.idxF (hmv.le le1) (by kernel_rfl) (by kernel_rfl) rfl Tryd.underlying22 (by kernel_rfl) rfl rfl ⟨by omega, by omega⟩ (by kernel_rfl) ?_
    intro b6 q7 r8 hF9 hE10
    rw [strs_at (l := m) (j := i) (i := ((i : Nat) : Int)) (by omega) (by omega)] at hE10
    refine RW.loads 1 (by kernel_rfl) (by kernel_rfl) rfl rfl (H.old _ _ hF9) hE10 rfl (by kernel_rfl) ?_
    refine RW.v ?_
    refine RW.nil ?_
    refine W.rg [(1, .string ⟨s.toArray⟩), (2, .bool false), (8, mv), (9, .pointer (some ⟨b2, 0, none⟩)), (10, u), (11, um), (12, .slice (some ⟨bp, 0, none⟩) ws.length ws.length), (14, .string ⟨(m.getD i []).toArray⟩), (40, mv), (41, .int .i64 (m.length : Int)), (42, .int .i64 ((i : Nat) : Int))] fun TA => ?_
    refine W.seq (W.region ?_)
    refine RW.loads 1 (by kernel_rfl) (by kernel_rfl) rfl rfl (H.old _ _ (le1 _ _ hb7)) rfl rfl (by kernel_rfl) ?_
    refine RW.v ?_
    refine RW.convR H (Nat.le_trans (hmm _ (mem_of him)) (by decide)) (by kernel_rfl) (by kernel_rfl) rfl rfl rfl rfl rfl (by kernel_rfl) ?_
    clear H; intro _ cw11 H
    obtain ⟨F, le, hk12, H⟩ := H.freezeK 0 rfl
    dsimp only [setL, delL] at H
    replace le1 := fun b y h => le b y (le1 b y h)
    replace hA := fun t ht => (hA t ht).le le
    iterate 2 refine RW.v ?_
    refine RW.cl ?_
    refine ((match_wc (fold := false) hk12 (hu.le le1) (al.le le1) (hum.le le1).slf (Nat.le_trans (runes_le _) (Nat.le_trans (hmm _ (mem_of him)) (by decide))) (by omega) hwm (runes_in _) hwb H).mono ?_)
    clear H
    rintro _ _ ⟨F, cv, cs, le, rfl, hcv, alr, H⟩
    replace le1 := fun b y h => le b y (le1 b y h)
    replace hA := fun t ht => (hA t ht).le le
    replace hk12 := hk12.le le
    obtain ⟨r, hr⟩ : ∃ r, r = (matchC false (runes (m.getD i [])) (runes s)).getD [] := ⟨_, rfl⟩
    have hme : matchG false (runes (m.getD i [])) ws ms = matchC false (runes (m.getD i [])) (runes s) := by rw [hws, hms]; rfl
    rw [hme, ← hr] at hcv alr
    have hrw : r.length = ws.length := by rw [hr, hws]; exact piece_len (by rw [hm] at him ⊢; exact (partC_good.1 _ (mem_of him)).2)
    iterate 5 refine RW.v ?_
    refine RW.nil ?_
    refine W.rg [(1, .string ⟨s.toArray⟩), (2, .bool false), (8, mv), (9, .pointer (some ⟨b2, 0, none⟩)), (10, u), (11, um), (12, .slice (some ⟨bp, 0, none⟩) ws.length ws.length), (15, cv), (40, mv), (41, .int .i64 (m.length : Int)), (42, .int .i64 ((i : Nat) : Int))] fun TA => ?_
    refine W.seq (W.region ?_)
    refine RW.v ?_
    refine RW.len (by kernel_rfl) (by kernel_rfl) rfl rfl rfl rfl (hcv.slf.len (e := 50) (by kernel_rfl)) (by kernel_rfl) ?_
    refine RW.v ?_
    refine RW.nil ?_
    refine W.rg [(1, .string ⟨s.toArray⟩), (2, .bool false), (8, mv), (9, .pointer (some ⟨b2, 0, none⟩)), (10, u), (11, um), (12, .slice (some ⟨bp, 0, none⟩) ws.length ws.length), (40, mv), (41, .int .i64 (m.length : Int)), (42, .int .i64 ((i : Nat) : Int)), (55, cv), (56, .int .i64 (r.length : Int)), (57, .int .i64 0)] fun TA => ?_
    refine W.block ?_
    refine W.loop (fun mm2 ta σ => ∃ (j : Nat) (us : List Value) (xss : List (List Value)), (mm2 + j = r.length) ∧ (∀ t, t < ws.length → AllZ F (xss.getD t []) (pieceC false (m.take (if t < j then i + 1 else i)) s t)) ∧ (us.length = ws.length) ∧ (xss.length = ws.length) ∧ Lies G A F σ (.at_ bp (.row ⟨us, 49, false⟩) :: ((PE us xss ++ L))) ∧ ta 1 = .string ⟨s.toArray⟩ ∧ ta 2 = .bool false ∧ ta 8 = mv ∧ ta 9 = .pointer (some ⟨b2, 0, none⟩) ∧ ta 10 = u ∧ ta 11 = um ∧ ta 12 = .slice (some ⟨bp, 0, none⟩) ws.length ws.length ∧ ta 40 = mv ∧ ta 41 = .int .i64 (m.length : Int) ∧ ta 42 = .int .i64 ((i : Nat) : Int) ∧ ta 55 = cv ∧ ta 56 = .int .i64 (r.length : Int) ∧ ta 57 = .int .i64 ((j : Nat) : Int)) r.length ?_ ?_
    ·exact ⟨0, us, xss, (by omega), (fun t ht => by rw [if_neg (by omega)]; exact hA t ht), hu1, hx1, H, rfl, rfl, rfl, rfl, rfl, rfl, rfl, rfl, rfl, rfl, rfl, rfl, rfl⟩
    clear H
    rintro mm2 ta _ ⟨j, us, xss, hm2, hA, hu1, hx1, H, e1, e2, e8, e9, e10, e11, e12, e40, e41, e42, e55, e56, e57⟩
    refine W.rst [(1, .string ⟨s.toArray⟩), (2, .bool false), (8, mv), (9, .pointer (some ⟨b2, 0, none⟩)), (10, u), (11, um), (12, .slice (some ⟨bp, 0, none⟩) ws.length ws.length), (40, mv), (41, .int .i64 (m.length : Int)), (42, .int .i64 ((i : Nat) : Int)), (55, cv), (56, .int .i64 (r.length : Int)), (57, .int .i64 ((j : Nat) : Int))] ⟨e1, e2, e8, e9, e10, e11, e12, e40, e41, e42, e55, e56, e57, trivial⟩ fun TA => ?_
    clear e1 e2 e8 e9 e10 e11 e12 e40 e41 e42 e55 e56 e57
    refine W.seq (W.region ?_)
    refine RW.v ?_
    refine RW.nil ?_
    refine W.rg [(1, .string ⟨s.toArray⟩), (2, .bool false), (8, mv), (9, .pointer (some ⟨b2, 0, none⟩)), (10, u), (11, um), (12, .slice (some ⟨bp, 0, none⟩) ws.length ws.length), (40, mv), (41, .int .i64 (m.length : Int)), (42, .int .i64 ((i : Nat) : Int)), (55, cv), (56, .int .i64 (r.length : Int)), (57, .int .i64 ((j : Nat) : Int)), (58, .bool (decide (((j : Nat) : Int) < (r.length : Int))))] fun TA => ?_
    refine W.seq ?_
    refine W.cond rfl (fun hc13 => ?_) (fun hc13 => ?_)
    ·have hc13b := hc13
     have hc13 := of_decide_eq_true hc13
     have hjr : j < r.length := by omega
     refine W.skip ?_
     refine W.seq ?_
     refine W.block ?_
     refine W.seq (W.region ?_)
     refine RW.v ?_
     refine RW.idxF hcv.slf (by kernel_rfl) (by kernel_rfl) rfl Tryd.underlying49 (by kernel_rfl) rfl rfl ⟨by omega, by omega⟩ (by kernel_rfl) ?_
     intro b14 q15 r16 hF17 hE18
     rw [vals_at (l := cs) (j := j) (i := ((j : Nat) : Int)) (by omega) (by have := alr.1; omega)] at hE18
     refine RW.loads 1 (by kernel_rfl) (by kernel_rfl) rfl rfl (H.old _ _ hF17) hE18 rfl (by kernel_rfl) ?_
     iterate 2 refine RW.v ?_
     refine RW.nil ?_
     refine W.rg [(1, .string ⟨s.toArray⟩), (2, .bool false), (8, mv), (9, .pointer (some ⟨b2, 0, none⟩)), (10, u), (11, um), (12, .slice (some ⟨bp, 0, none⟩) ws.length ws.length), (17, .int .i64 ((j : Nat) : Int)), (18, (cs.getD j undef)), (40, mv), (41, .int .i64 (m.length : Int)), (42, .int .i64 ((i : Nat) : Int)), (55, cv), (56, .int .i64 (r.length : Int)), (57, .int .i64 ((j : Nat) : Int))] fun TA => ?_
     refine W.region ?_
     iterate 4 refine RW.v ?_
     have hxj : (xss.getD j []).length = i := by rw [(hA j (by omega)).1, pieceC, List.length_map, if_neg (Nat.lt_irrefl _), List.length_take]; omega
     replace H := H.perm (pe_pick (j := j) (by omega) (hu1.trans hx1.symm))
     refine RW.idxE (s := 1) (by kernel_rfl) (by kernel_rfl) rfl Tryd.underlying53 (by kernel_rfl) rfl rfl ⟨by omega, by omega⟩ (by kernel_rfl) ?_
     intro q19 q19e
     have q19j : q19 = j := by rw [q19e]; omega
     rw [q19j]
     clear q19e q19j
     have hgf := gr_forms (H.sl 1 rfl)
     refine RW.ldL H 0 1 (cs := [(us.getD j undef)]) (v := (us.getD j undef)) (by kernel_rfl) (by kernel_rfl) rfl rfl rfl (us_at (show j < us.length by omega)) (by rcases hgf with h | ⟨_, _, _, h⟩ <;> rw [h] <;> kernel_rfl) (by kernel_rfl) ?_
     refine RW.v ?_
     refine RW.mkL H (x := .row ⟨[(cs.getD j undef)], 50, false⟩) (fm := fun b => .slice (some ⟨b, 0, none⟩) 1 1) (by kernel_rfl) (by kernel_rfl) (by rcases slf_forms (alr.2 j (by omega)).slf with e0 | ⟨_, e0⟩ | ⟨_, _, _, _, _, e0⟩ <;> rw [e0] <;> kernel_rfl) (by kernel_rfl) ?_
     clear H; intro _ b20 _ H
     refine RW.appL H 2 0 (n := 1) (e2 := 50) (by kernel_rfl) (by kernel_rfl) rfl rfl rfl rfl rfl rfl rfl rfl (by kernel_rfl) (by kernel_rfl) (by kernel_rfl) (by decide) (by decide) rfl (slf_all (alr.2 j (by omega)).slf) (by omega) (by kernel_rfl) ?_
     clear H; intro _ v21 _ H
     dsimp only [setL, delL] at H
     refine RW.idxE (s := 1) (by kernel_rfl) (by kernel_rfl) rfl Tryd.underlying53 (by kernel_rfl) rfl rfl ⟨by omega, by omega⟩ (by kernel_rfl) ?_
     intro q22 q22e
     have q22j : q22 = j := by rw [q22e]; omega
     rw [q22j]
     clear q22e q22j
     have hgf2 := gr_forms (H.sl 1 rfl)
     refine RW.stE H 0 rfl (vs := [v21]) (by show j + 1 ≤ us.length; omega) (by kernel_rfl) (by kernel_rfl) rfl rfl ((H.sl 1 rfl).one) (by rcases hgf2 with h | ⟨_, _, _, h⟩ <;> rw [h] <;> rfl) (by kernel_rfl) (by kernel_rfl) ?_
     clear H; intro _ H
     dsimp only [setL] at H
     rw [overL_one (show j < us.length by omega), show (xss.getD j []).length + 1 = ((xss.getD j []) ++ [(cs.getD j undef)]).length by rw [List.length_append]; rfl] at H
     replace H := H.perm (pe_put (us := us) (xss := xss) (j := j) (by omega) (hu1.trans hx1.symm))
     refine RW.nil ?_
     refine blkQ_normal ?_
     refine W.rg [(1, .string ⟨s.toArray⟩), (2, .bool false), (8, mv), (9, .pointer (some ⟨b2, 0, none⟩)), (10, u), (11, um), (12, .slice (some ⟨bp, 0, none⟩) ws.length ws.length), (40, mv), (41, .int .i64 (m.length : Int)), (42, .int .i64 ((i : Nat) : Int)), (55, cv), (56, .int .i64 (r.length : Int)), (57, .int .i64 ((j : Nat) : Int))] fun TA => ?_
     refine W.region ?_
     refine RW.valE (v' := .int .i64 (((j : Nat) : Int) + 1)) (by kernel_rfl) (by kernel_rfl) rfl (congrArg (Value.int .i64) (wrap_in (by omega) (by omega))) (by kernel_rfl) ?_
     refine RW.v ?_
     refine RW.nil ?_
     exact ⟨rfl, mm2 - 1, by omega, j + 1, (us.set j v21), (xss.set j ((xss.getD j []) ++ [(cs.getD j undef)])), (by omega), (pa_step hA (by omega) hx1 him (alr.2 j (by omega)) hr), (by rw [List.length_set]; exact hu1), (by rw [List.length_set]; exact hx1), H, rfl, rfl, rfl, rfl, rfl, rfl, rfl, rfl, rfl, rfl, rfl, rfl, rfl⟩
    ·have hc13b := hc13
     have hc13 := of_decide_eq_false hc13
     refine W.exit _ ?_
     refine seqQ_exit ?_
     refine rndQ_exit ?_
     replace hA : ∀ t, t < ws.length → AllZ F (xss.getD t []) (pieceC false (m.take (i + 1)) s t) := fun t ht => by have := hA t ht; rwa [if_pos (by omega)] at this
     refine blkQ_here ?_
     refine blkQ_normal ?_
     refine W.region ?_
     refine RW.valE (v' := .int .i64 (((i : Nat) : Int) + 1)) (by kernel_rfl) (by kernel_rfl) rfl (congrArg (Value.int .i64) (wrap_in (by omega) (by omega))) (by kernel_rfl) ?_
     refine RW.v ?_
     refine RW.nil ?_
     exact ⟨rfl, mm - 1, by omega, i + 1, F, us, xss, (by omega), le1, hA, hu1, hx1, H, rfl, rfl, rfl, rfl, rfl, rfl, rfl, rfl, rfl, rfl⟩
   ·have hc5b := hc5
    have hc5 := of_decide_eq_false hc5
    refine W.exit _ ?_
    refine seqQ_exit ?_
    refine rndQ_exit ?_
    rw [List.take_of_length_le (show m.length ≤ i by omega)] at hA
    obtain ⟨F, le, hrow, H⟩ := H.freezeR 0 rfl (n := ws.length) (s := 1) (by rw [hu1]; omega)
    dsimp only [setL, delL] at H
    replace le1 := fun b y h => le b y (le1 b y h)
    replace hA := fun t ht => (hA t ht).le le
    obtain ⟨F, le, hP, H⟩ := H.freezePE (hu1.trans hx1.symm)
    replace le1 := fun b y h => le b y (le1 b y h)
    replace hA := fun t ht => (hA t ht).le le
    replace hrow := hrow.le le
    rw [hu1] at hP
    obtain ⟨F2, hF2⟩ : ∃ F2, F2 = F := ⟨_, rfl⟩
    have le2 : Le F2 F := fun b y h => hF2 ▸ h
    rw [← hF2] at hA hrow hP
    clear hF2
    refine blkQ_here ?_
    refine W.seq (W.region ?_)
    refine RW.v ?_
    refine RW.nil ?_
    refine W.rg [(1, .string ⟨s.toArray⟩), (2, .bool false), (8, mv), (9, .pointer (some ⟨b2, 0, none⟩)), (11, um), (12, (.slice (some ⟨bp, 0, none⟩) ws.length ws.length)), (19, .slice none 0 0)] fun TA => ?_
    refine W.seq ?_
    refine W.seq (W.region ?_)
    refine RW.v ?_
    refine RW.len (by kernel_rfl) (by kernel_rfl) rfl rfl rfl rfl ((hrow.le le2).slf.len (e := 49) (by kernel_rfl)) (by kernel_rfl) ?_
    refine RW.v ?_
    refine RW.nil ?_
    refine W.rg [(1, .string ⟨s.toArray⟩), (2, .bool false), (8, mv), (9, .pointer (some ⟨b2, 0, none⟩)), (11, um), (19, .slice none 0 0), (74, (.slice (some ⟨bp, 0, none⟩) ws.length ws.length)), (75, .int .i64 (ws.length : Int)), (76, .int .i64 0)] fun TA => ?_
    refine W.block ?_
    replace H := H.nilSl 21 1
    refine W.loop (fun mm ta σ => ∃ (i : Nat) (F : Nat → Option Blk2) (v : Value) (out : List Int), (mm + i = ws.length) ∧ (Le F1 F) ∧ (Le F2 F) ∧ (out.length ≤ i * 61) ∧ (joinC false m s ws.length 0 = out ++ joinC false m s (ws.length - i) i) ∧ Lies G A F σ (.sl 21 1 v out.length (out.map runeV) :: (L)) ∧ ta 1 = .string ⟨s.toArray⟩ ∧ ta 2 = .bool false ∧ ta 8 = mv ∧ ta 9 = .pointer (some ⟨b2, 0, none⟩) ∧ ta 11 = um ∧ ta 19 = v ∧ ta 74 = (.slice (some ⟨bp, 0, none⟩) ws.length ws.length) ∧ ta 75 = .int .i64 (ws.length : Int) ∧ ta 76 = .int .i64 ((i : Nat) : Int)) ws.length ?_ ?_
    ·exact ⟨0, F, .slice none 0 0, [], (by omega), le1, le2, (Nat.zero_le _), rfl, H, rfl, rfl, rfl, rfl, rfl, rfl, rfl, rfl, rfl⟩
    clear H
    rintro mm ta _ ⟨i, F, v, out, hmi, le1, le2, hol, hT, H, e1, e2, e8, e9, e11, e19, e74, e75, e76⟩
    refine W.rst [(1, .string ⟨s.toArray⟩), (2, .bool false), (8, mv), (9, .pointer (some ⟨b2, 0, none⟩)), (11, um), (19, v), (74, (.slice (some ⟨bp, 0, none⟩) ws.length ws.length)), (75, .int .i64 (ws.length : Int)), (76, .int .i64 ((i : Nat) : Int))] ⟨e1, e2, e8, e9, e11, e19, e74, e75, e76, trivial⟩ fun TA => ?_
    clear e1 e2 e8 e9 e11 e19 e74 e75 e76
    refine W.seq (W.region ?_)
    refine RW.v ?_
    refine RW.nil ?_
    refine W.rg [(1, .string ⟨s.toArray⟩), (2, .bool false), (8, mv), (9, .pointer (some ⟨b2, 0, none⟩)), (11, um), (19, v), (74, (.slice (some ⟨bp, 0, none⟩) ws.length ws.length)), (75, .int .i64 (ws.length : Int)), (76, .int .i64 ((i : Nat) : Int)), (77, .bool (decide (((i : Nat) : Int) < (ws.length : Int))))] fun TA => ?_
    refine W.seq ?_
    refine W.cond rfl (fun hc23 => ?_) (fun hc23 => ?_)
    ·have hc23b := hc23
     have hc23 := of_decide_eq_true hc23
     have hiw : i < ws.length := by omega
     have hpl : (pieceC false m s i).length = m.length := List.length_map _
     have hxl : (xss.getD i []).length = (pieceC false m s i).length := (hA i (by omega)).1
     refine W.skip ?_
     refine W.seq ?_
     refine W.block ?_
     refine W.seq (W.region ?_)
     refine RW.v ?_
     refine RW.idxF (hrow.le le2).slf (by kernel_rfl) (by kernel_rfl) rfl Tryd.underlying53 (by kernel_rfl) rfl rfl ⟨by omega, by omega⟩ (by kernel_rfl) ?_
     intro b24 q25 r26 hF27 hE28
     rw [vals_at (l := us) (j := i) (i := ((i : Nat) : Int)) (by omega) (by omega)] at hE28
     refine RW.loads 1 (by kernel_rfl) (by kernel_rfl) rfl rfl (H.old _ _ hF27) hE28 rfl (by kernel_rfl) ?_
     iterate 2 refine RW.v ?_
     refine RW.nil ?_
     refine W.rg [(1, .string ⟨s.toArray⟩), (2, .bool false), (8, mv), (9, .pointer (some ⟨b2, 0, none⟩)), (11, um), (19, v), (20, .int .i64 ((i : Nat) : Int)), (21, (us.getD i undef)), (74, (.slice (some ⟨bp, 0, none⟩) ws.length ws.length)), (75, .int .i64 (ws.length : Int)), (76, .int .i64 ((i : Nat) : Int))] fun TA => ?_
     refine W.seq ?_
     refine W.drawn (by kernel_rfl) (by kernel_rfl) H.gn ?_
     have H29 := H
     refine RW.v ?_
     refine RW.loads 1 (by kernel_rfl) (by kernel_rfl) rfl rfl (H29.old _ _ (le1 _ _ hb7)) rfl rfl (by kernel_rfl) ?_
     refine RW.v ?_
     refine RW.idxF ((hP i (by omega)).le le2).slf (by kernel_rfl) (by kernel_rfl) rfl Tryd.underlying49 (by kernel_rfl) rfl rfl ⟨by omega, by omega⟩ (by kernel_rfl) ?_
     intro b30 q31 r32 hF33 hE34
     rw [vals_at (l := (xss.getD i [])) (j := 0) (i := 0) (by omega) (by have := ((hA i (by omega)).le le2).1; omega)] at hE34
     refine RW.loads 1 (by kernel_rfl) (by kernel_rfl) rfl rfl (H29.old _ _ hF33) hE34 rfl (by kernel_rfl) ?_
     refine RW.v ?_
     obtain ⟨sv35, hv36, hk37⟩ := slk_rest (P := Tryd.prog) (t := 49) (e := 50) (i := 1) ((hP i (by omega)).le le2) (by kernel_rfl) (by kernel_rfl) (by omega)
     rw [show ((1 : Nat) : Int) = 1 from by omega] at hv36
     rw [Nat.mul_one] at hk37
     refine RW.vop (v := sv35) (by kernel_rfl) (by kernel_rfl) (vop_slice rfl hv36) (by kernel_rfl) ?_
     have hrest : SlK F 1 sv35 ((pieceC false m s i).drop 1).length ((xss.getD i []).drop 1) := by rw [List.length_drop, ← hxl]; exact hk37
     have al1 := ((hA i (by omega)).le le2).drop 1
     have hpc : ∀ z ∈ (pieceC false m s i), z.length ≤ 60 ∧ ∀ c ∈ z, 0 ≤ c ∧ c ≤ 1114111 := piece_in hmm
     refine RW.cl ?_
     refine ((common_wc (fold := false) (xs := (pieceC false m s i).getD 0 []) (ls := (pieceC false m s i).drop 1) (((hA i (by omega)).le le2).2 0 (by omega)) hrest al1 (by have := (hpc _ (lst_mem (l := (pieceC false m s i)) (j := 0) (by omega))).1; omega) (by rw [List.length_drop]; omega) (hpc _ (lst_mem (by omega))).2 (fun y h => (hpc y (List.mem_of_mem_drop h)).2) H29).mono ?_)
     rintro cw _ ⟨hcw, H38⟩
     rw [← comC_ne (by omega)] at hcw
     have hcl : (comC false (pieceC false m s i)).length ≤ 60 := comT_len fun z hz => (hpc z hz).1
     refine RW.appFD H38 0 (e2 := 21) hcw.slf (by kernel_rfl) (by kernel_rfl) rfl rfl rfl rfl rfl rfl rfl (.inl rfl) (by kernel_rfl) (by kernel_rfl) (by kernel_rfl) (by decide) (runs_ones _) (by omega) (by kernel_rfl) ?_
     intro _ v39 H40
     dsimp only [setL] at H40
     refine RW.v ?_
     refine RW.nil ?_
     refine ⟨⟨by kernel_rfl, ⟨trivial, dyn_row (H29.old _ _ (le1 _ _ hb7)) (H40.old _ _ (le1 _ _ hb7)) ⟨fun h => Bool.noConfusion h, fun h => Bool.noConfusion h, fun h => Bool.noConfusion h, fun h => Bool.noConfusion h, fun h => Bool.noConfusion h, fun h => Bool.noConfusion h, fun h => Bool.noConfusion h, fun _ => H29.old _ _ (le1 _ _ hb7), fun _ => H38.old _ _ (le1 _ _ hb7), fun h => Bool.noConfusion h, trivial⟩, trivial, trivial, dyn_row (H29.old _ _ hF33) (H40.old _ _ hF33) ⟨fun h => Bool.noConfusion h, fun h => Bool.noConfusion h, fun h => Bool.noConfusion h, fun h => Bool.noConfusion h, fun h => Bool.noConfusion h, fun h => Bool.noConfusion h, fun h => Bool.noConfusion h, fun _ => H29.old _ _ hF33, fun _ => H38.old _ _ hF33, fun h => Bool.noConfusion h, trivial⟩, trivial, trivial, trivial, trivial, trivial, trivial⟩⟩, ?_⟩
     replace H := H40
     clear H29 H38 H40
     refine W.rg [(1, .string ⟨s.toArray⟩), (2, .bool false), (8, mv), (9, .pointer (some ⟨b2, 0, none⟩)), (11, um), (19, v39), (20, .int .i64 ((i : Nat) : Int)), (74, (.slice (some ⟨bp, 0, none⟩) ws.length ws.length)), (75, .int .i64 (ws.length : Int)), (76, .int .i64 ((i : Nat) : Int))] fun TA => ?_
     refine W.seq (W.region ?_)
     iterate 2 refine RW.v ?_
     refine RW.len (by kernel_rfl) (by kernel_rfl) rfl rfl rfl rfl ((hum.le le1).slf.len (e := 21) (by kernel_rfl)) (by kernel_rfl) ?_
     refine RW.v ?_
     refine RW.nil ?_
     refine W.rg [(1, .string ⟨s.toArray⟩), (2, .bool false), (8, mv), (9, .pointer (some ⟨b2, 0, none⟩)), (11, um), (19, v39), (20, .int .i64 ((i : Nat) : Int)), (74, (.slice (some ⟨bp, 0, none⟩) ws.length ws.length)), (75, .int .i64 (ws.length : Int)), (76, .int .i64 ((i : Nat) : Int)), (93, .bool (decide (((i : Nat) : Int) < (ms.length : Int))))] fun TA => ?_
     refine W.cond rfl (fun hc41 => ?_) (fun hc41 => ?_)
     ·have hc41b := hc41
      have hc41 := of_decide_eq_true hc41
      refine W.region ?_
      iterate 3 refine RW.v ?_
      refine RW.idxF (hum.le le1).slf (by kernel_rfl) (by kernel_rfl) rfl Tryd.underlying50 (by kernel_rfl) rfl rfl ⟨by omega, by omega⟩ (by kernel_rfl) ?_
      intro b42 q43 r44 hF45 hE46
      rw [runs_at (l := ms) (j := i) (i := ((i : Nat) : Int)) (by omega) (by omega)] at hE46
      refine RW.loads 1 (by kernel_rfl) (by kernel_rfl) rfl rfl (H.old _ _ hF45) hE46 rfl (by kernel_rfl) ?_
      refine RW.mkL H (x := .row ⟨[.int .i32 (ms.getD i 0)], 21, false⟩) (fm := fun b => .slice (some ⟨b, 0, none⟩) 1 1) (by kernel_rfl) (by kernel_rfl) (by kernel_rfl) (by kernel_rfl) ?_
      clear H; intro _ b47 _ H
      refine RW.appL H 1 0 (n := 1) (e2 := 21) (by kernel_rfl) (by kernel_rfl) rfl rfl rfl rfl rfl rfl rfl rfl (by kernel_rfl) (by kernel_rfl) (by kernel_rfl) (by decide) (by decide) rfl rfl (by omega) (by kernel_rfl) ?_
      clear H; intro _ v48 _ H
      dsimp only [setL, delL] at H
      refine RW.v ?_
      refine RW.nil ?_
      refine blkQ_normal ?_
      refine W.rg [(1, .string ⟨s.toArray⟩), (2, .bool false), (8, mv), (9, .pointer (some ⟨b2, 0, none⟩)), (11, um), (19, v48), (74, (.slice (some ⟨bp, 0, none⟩) ws.length ws.length)), (75, .int .i64 (ws.length : Int)), (76, .int .i64 ((i : Nat) : Int))] fun TA => ?_
      refine W.region ?_
      refine RW.valE (v' := .int .i64 (((i : Nat) : Int) + 1)) (by kernel_rfl) (by kernel_rfl) rfl (congrArg (Value.int .i64) (wrap_in (by omega) (by omega))) (by kernel_rfl) ?_
      refine RW.v ?_
      refine RW.nil ?_
      rw [show out.length + (comC false (pieceC false m s i)).length + 1 = (out ++ comC false (pieceC false m s i) ++ [ms.getD i 0]).length by rw [List.length_append, List.length_append]; rfl, show out.map runeV ++ (comC false (pieceC false m s i)).map runeV ++ [.int .i32 (ms.getD i 0)] = (out ++ comC false (pieceC false m s i) ++ [ms.getD i 0]).map runeV by rw [List.map_append, List.map_append]; rfl] at H
      exact ⟨rfl, mm - 1, by omega, i + 1, F, v48, (out ++ comC false (pieceC false m s i) ++ [ms.getD i 0]), (by omega), le1, le2, (by rw [List.length_append, List.length_append]; simp only [List.length_cons, List.length_nil]; omega), (by rw [hT, join_step hiw, ← hms, if_pos (by omega), ← List.append_assoc, ← List.append_assoc]), H, rfl, rfl, rfl, rfl, rfl, rfl, rfl, rfl, rfl⟩
     ·have hc41b := hc41
      have hc41 := of_decide_eq_false hc41
      refine W.skip ?_
      refine blkQ_normal ?_
      refine W.region ?_
      refine RW.valE (v' := .int .i64 (((i : Nat) : Int) + 1)) (by kernel_rfl) (by kernel_rfl) rfl (congrArg (Value.int .i64) (wrap_in (by omega) (by omega))) (by kernel_rfl) ?_
      refine RW.v ?_
      refine RW.nil ?_
      rw [show out.length + (comC false (pieceC false m s i)).length = (out ++ comC false (pieceC false m s i) ++ []).length by rw [List.append_nil, List.length_append], show out.map runeV ++ (comC false (pieceC false m s i)).map runeV = (out ++ comC false (pieceC false m s i) ++ []).map runeV by rw [List.append_nil, List.map_append]] at H
      exact ⟨rfl, mm - 1, by omega, i + 1, F, v39, (out ++ comC false (pieceC false m s i) ++ []), (by omega), le1, le2, (by rw [List.length_append, List.length_append]; simp only [List.length_cons, List.length_nil]; omega), (by rw [hT, join_step hiw, ← hms, if_neg (by omega), ← List.append_assoc, ← List.append_assoc]), H, rfl, rfl, rfl, rfl, rfl, rfl, rfl, rfl, rfl⟩
    ·have hc23b := hc23
     have hc23 := of_decide_eq_false hc23
     refine W.exit _ ?_
     refine seqQ_exit ?_
     refine rndQ_exit ?_
     have hJ : joinC false m s ws.length 0 = out := by rw [hT, show ws.length - i = 0 by omega]; exact List.append_nil _
     obtain ⟨F, le, hout, H⟩ := H.freezeK 0 rfl
     dsimp only [setL, delL] at H
     replace le1 := fun b y h => le b y (le1 b y h)
     replace le2 := fun b y h => le b y (le2 b y h)
     refine blkQ_here ?_
     refine W.seq ?_
     refine W.drawn (by kernel_rfl) (by kernel_rfl) H.gn ?_
     have H49 := H
     refine RW.v ?_
     by_cases hz : out = []
     ·rw [hz] at hout
      refine RW.vop (v := .string ⟨(encA []).toArray⟩) (by kernel_rfl) (by kernel_rfl) (vop_backZ hout rfl rfl rfl rfl rfl) (by kernel_rfl) ?_
      iterate 3 refine RW.v ?_
      refine RW.cl ?_
      refine ((status_wc (fold := false) (hmv.le le1) hml (fun x hx => Nat.le_trans (hmm x hx) (by decide)) (Nat.le_trans hs (by decide)) H49).mono ?_)
      rintro _ _ ⟨rfl, H50⟩
      iterate 2 refine RW.v ?_
      refine RW.nil ?_
      refine ⟨⟨by kernel_rfl, ⟨trivial, trivial, trivial, trivial, trivial, trivial, trivial, trivial, trivial⟩⟩, ?_⟩
      replace H := H50
      clear H49 H50
      refine W.ret ?_
      refine endG (by rfl) (by exact resL_tmp (by exact resL_tmp rfl)) ?_
      rw [show tryP false l s = encA [] by unfold tryP; rw [← hm, if_neg (fun e => by rw [e] at hmpos; exact absurd hmpos (Nat.lt_irrefl _)), ← hws, hJ, hz]]
      exact ⟨rfl, (H).back (fun b y h => le1 b y (le01 b y h))⟩
     ·have hob : ∀ c ∈ out, chB c = true := by rw [← hJ, hm, hws]; exact join_chars
      refine RW.backR H49 hout.slf hob hz (by kernel_rfl) (by kernel_rfl) rfl rfl rfl rfl rfl (by kernel_rfl) ?_
      intro b51 q52 r53 hF54 hE55
      iterate 3 refine RW.v ?_
      refine RW.cl ?_
      refine ((status_wc (fold := false) (hmv.le le1) hml (fun x hx => Nat.le_trans (hmm x hx) (by decide)) (Nat.le_trans hs (by decide)) H49).mono ?_)
      rintro _ _ ⟨rfl, H56⟩
      iterate 2 refine RW.v ?_
      refine RW.nil ?_
      refine ⟨⟨by kernel_rfl, ⟨trivial, dyn_row (H49.old _ _ hF54) (H56.old _ _ hF54) ⟨fun h => Bool.noConfusion h, fun h => Bool.noConfusion h, fun h => Bool.noConfusion h, fun h => Bool.noConfusion h, fun h => Bool.noConfusion h, fun _ => H49.old _ _ hF54, fun h => Bool.noConfusion h, fun h => Bool.noConfusion h, trivial⟩, trivial, trivial, trivial, trivial, trivial, trivial, trivial⟩⟩, ?_⟩
      replace H := H56
      clear H49 H56
      refine W.ret ?_
      refine endG (by rfl) (by exact resL_tmp (by exact resL_tmp rfl)) ?_
      rw [show tryP false l s = encA out by unfold tryP; rw [← hm, if_neg (fun e => by rw [e] at hmpos; exact absurd hmpos (Nat.lt_irrefl _)), ← hws, hJ]]
      exact ⟨rfl, (H).back (fun b y h => le1 b y (le01 b y h))⟩
end
end Go.Proofs.YtjcmdifpkafdkaaDoor
