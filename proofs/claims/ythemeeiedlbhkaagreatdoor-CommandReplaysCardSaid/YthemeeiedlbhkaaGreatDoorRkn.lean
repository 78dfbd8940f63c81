/-
 CommandReplays in the second memory. Conditions: none.
-/
import Derived.Test.YthemeeiedlbhkaaGreatDoorK4
import Derived.Test.YthemeeiedlbhkaaGreatDoorArgR
namespace Go.Proofs.YthemeeiedlbhkaaGreatDoor
set_option maxRecDepth 100000
def pushM (X : List Int) (M : List (List Int)) : List (List Int) := X :: M.take 19
def rotL (n : Int) (M : List (List Int)) : List (List Int) := M.drop (rotN n M.length) ++ M.take (rotN n M.length)
theorem push_is (X : List Int) (M : List (List Int)) : (X :: M).take (min (1 + M.length) 20) = pushM X M := by
 unfold pushM
 rcases Nat.le_total M.length 19 with h | h
 ·rw [Nat.min_eq_left (by omega), List.take_of_length_le (by rw [List.length_cons]; omega), List.take_of_length_le h]
 ·rw [Nat.min_eq_right (by omega)]
  rfl
theorem push_len (X : List Int) (M : List (List Int)) : (pushM X M).length = min M.length 19 + 1 := by
 unfold pushM
 rw [List.length_cons, List.length_take, Nat.min_comm]
theorem rot_len {M : List (List Int)} (n : Int) (h : 0 < M.length) : (rotL n M).length = M.length := by
 unfold rotL
 have := rotN_lt n h
 rw [List.length_append, List.length_drop, List.length_take]
 omega
theorem tmod_nat (a b : Nat) : Int.tmod (a : Int) (b : Int) = ((a % b : Nat) : Int) := by rw [Int.tmod_eq_emod_of_nonneg (by omega)]; exact (Int.natCast_emod a b).symm
theorem rotN_pos {n : Int} {m : Nat} (h : 0 < m) (hn : 0 ≤ n) : rotN n m = n.toNat % m := by
 have h1 := rot_pos n h (by rw [Int.tmod_eq_emod_of_nonneg hn]; have := Int.emod_nonneg n (show (m : Int) ≠ 0 by omega); omega)
 obtain ⟨k, rfl⟩ : ∃ k : Nat, n = (k : Int) := ⟨n.toNat, by omega⟩
 rw [tmod_nat] at h1
 rw [Int.toNat_natCast]
 omega
theorem rot_back {M : List (List Int)} {n : Int} (h : 0 < M.length) (hn : 0 ≤ n) : rotL (0 - n) (rotL n M) = M := by
 have hk := rotN_lt n h
 have hk2 := rotN_lt (0 - n) h
 have e : rotN n M.length = 0 ∧ rotN (0 - n) M.length = 0 ∨ rotN (0 - n) M.length = M.length - rotN n M.length := by
  obtain ⟨k, rfl⟩ : ∃ k : Nat, n = (k : Int) := ⟨n.toNat, by omega⟩
  have h1 : rotN (k : Int) M.length = k % M.length := by rw [rotN_pos h hn, Int.toNat_natCast]
  have h2 : Int.tmod (0 - (k : Int)) (M.length : Int) = - ((k % M.length : Nat) : Int) := by rw [Int.zero_sub, Int.neg_tmod, tmod_nat]
  rcases Nat.eq_zero_or_pos (k % M.length) with h0 | h0
  ·left
   have h3 := rot_pos (0 - (k : Int)) h (by rw [h2, h0]; decide)
   rw [h2, h0] at h3
   exact ⟨by rw [h1, h0], by omega⟩
  ·right
   have h3 := rot_neg (0 - (k : Int)) h (by rw [h2]; omega)
   rw [h2] at h3
   rw [h1]
   have := Nat.mod_lt k h
   omega
 have hl : (rotL n M).length = M.length := rot_len n h
 unfold rotL at hl ⊢
 rw [hl]
 rcases e with ⟨e1, e2⟩ | e2
 ·rw [e1, e2]
  simp
 ·have hd : (M.drop (rotN n M.length)).length = M.length - rotN n M.length := List.length_drop ..
  rw [e2, List.drop_left' hd, List.take_left' hd, List.take_append_drop]
theorem rep_get {X : List Int} : ∀ {n k : Nat}, k < (rep n X).length → (rep n X).getD k 0 = X.getD (k % X.length) 0
 | 0, k, h => by simp [rep] at h
 | n + 1, k, h => by
  have e : rep (n + 1) X = X ++ rep n X := by unfold rep; rw [List.replicate_succ, List.flatten_cons]
  rw [e] at h ⊢
  rw [List.length_append] at h
  rcases Nat.lt_or_ge k X.length with hk | hk
  ·rw [Nat.mod_eq_of_lt hk, List.getD_eq_getElem?_getD, List.getElem?_append_left hk, ← List.getD_eq_getElem?_getD]
  ·rw [List.getD_eq_getElem?_getD, List.getElem?_append_right hk, ← List.getD_eq_getElem?_getD, rep_get (by omega), Nat.mod_eq_sub_mod hk]
theorem rep_mul {X : List Int} {n : Int} (h : 0 ≤ n) : ((rep n.toNat X).length : Int) = n * (X.length : Int) := by
 obtain ⟨k, rfl⟩ : ∃ k : Nat, n = (k : Int) := ⟨n.toNat, by omega⟩
 rw [rep_len, Int.toNat_natCast]
 push_cast
 exact Int.mul_comm _ _
theorem take_snocI {X : List Int} {j : Nat} (h : j < X.length) : X.take j ++ [X.getD j 0] = X.take (j + 1) := by
 rw [List.take_add_one, List.getD_eq_getElem?_getD, List.getElem?_eq_getElem h]
 rfl
section
variable {M : List (List Int)} {X E : List Int} {ct : Int}
theorem start_off {s : RS} (h : s.on = false) : start s false = (0, ⟨true, [], s.M, s.ct⟩) := by
 unfold start
 rw [h]
 rfl
theorem record_on {n : Int} (h : E.length < 10000) : record ⟨true, E, M, ct⟩ n = (0, ⟨true, E ++ [n], M, ct⟩) := by
 unfold record
 rw [if_neg (by simp), if_neg (by show ¬ E.length = 10000; omega)]
theorem stop_zero (h : X.length = 0) : stop ⟨true, X, M, ct⟩ 0 = (0, ⟨false, [], M, ct⟩) := by
 obtain rfl := List.eq_nil_of_length_eq_zero h
 rfl
theorem stop_pos (h : 0 < X.length) : stop ⟨true, X, M, ct⟩ 0 = (0, ⟨false, [], pushM X M, ct⟩) := by
 unfold stop
 rw [if_neg (by simp), if_neg (by simp)]
 dsimp only
 rw [if_neg (by omega), show ((X.length : Int) - 0).toNat = X.length by omega, List.take_length, push_is]
theorem play_off {n : Int} (hX : 0 < X.length) (h1 : 1 ≤ n) (h2 : n ≤ 5) (h3 : X.length ≤ 20) : play ⟨false, [], pushM X M, ct⟩ n = (0, rep n.toNat X, ⟨false, [], pushM X M, min ct (2305843009213693951 - n) + n⟩) := by
 have e : (pushM X M).getD 0 [] = X := rfl
 have hl : (pushM X M).length ≠ 0 := by rw [push_len]; omega
 unfold play
 dsimp only
 rw [e, if_neg (by simp), if_neg hl, if_neg (by omega), if_neg]
 obtain ⟨k, rfl⟩ : ∃ k : Nat, n = (k : Int) := ⟨n.toNat, by omega⟩
 have := Nat.mul_le_mul (show k ≤ 5 by omega) h3
 have e2 : (k : Int) * (X.length : Int) = ((k * X.length : Nat) : Int) := by push_cast; rfl
 rw [e2]
 omega
theorem rotate_zero {s : RS} {n : Int} (h : s.M.length = 0) : rotate s n = (13, s) := by
 unfold rotate
 rw [if_pos h]
theorem rotate_pos {n : Int} (h : 0 < M.length) : rotate ⟨false, [], M, ct⟩ n = (0, ⟨false, [], rotL n M, ct⟩) := by
 unfold rotate
 rw [if_neg (by show ¬ M.length = 0; omega)]
 rfl
theorem ok_on (h : RS.Ok ⟨false, [], M, ct⟩) : RS.Ok ⟨true, [], M, ct⟩ := ⟨fun e => (by cases e), h.2.1, h.2.2.1, h.2.2.2.1, h.2.2.2.2⟩
theorem ok_take (h : RS.Ok ⟨false, [], M, ct⟩) (j : Nat) (hX : X.length ≤ 20) : RS.Ok ⟨true, X.take j, M, ct⟩ := ⟨fun e => (by cases e), by show (X.take j).length ≤ 10000; rw [List.length_take]; omega, h.2.2.1, h.2.2.2.1, h.2.2.2.2⟩
theorem ok_push (h : RS.Ok ⟨false, [], M, ct⟩) (h0 : 0 < X.length) (hX : X.length ≤ 20) : RS.Ok ⟨false, [], pushM X M, ct⟩ := ⟨fun _ => rfl, h.2.1, by show (pushM X M).length ≤ 20; rw [push_len]; omega, fun x hx => by
 rcases List.mem_cons.1 hx with rfl | hx
 ·exact ⟨h0, by omega⟩
 ·exact h.2.2.2.1 x (List.mem_of_mem_take hx), h.2.2.2.2⟩
theorem ok_rot {n : Int} (h : RS.Ok ⟨false, [], M, ct⟩) : RS.Ok ⟨false, [], rotL n M, ct⟩ := by
 rcases Nat.eq_zero_or_pos M.length with h0 | h0
 ·obtain rfl := List.eq_nil_of_length_eq_zero h0
  have e : rotL n [] = [] := by unfold rotL; rw [List.drop_nil, List.take_nil]; rfl
  rw [e]
  exact h
 ·refine ⟨fun _ => rfl, h.2.1, by show (rotL n M).length ≤ 20; rw [rot_len n h0]; exact h.2.2.1, fun x hx => ?_, h.2.2.2.2⟩
  exact (List.mem_append.1 hx).elim (fun hx => h.2.2.2.1 x (List.mem_of_mem_drop hx)) fun hx => h.2.2.2.1 x (List.mem_of_mem_take hx)
end
section
variable {G : Nat} {A : Abs} {σ : Mem} {F : Nat → Option Blk2} {L : List Ent} {q r w : Nat} {ev mv mr nv v : Value} {s : RS}
theorem P_ring (ok : s.Ok) (hp : StP F ev mv s) (H : Lies G A F σ (PE q r ev mv s ++ L)) : WC G Tryz.prog 28 #[.pointer (some ⟨q, 0, none⟩)] σ fun v σ' => ∃ us, us.length = s.M.length ∧ Lies G A F σ' (.sl 48 1 v s.M.length us :: (ents us s.M ++ (PE q r ev mv s ++ L))) := by
 obtain ⟨on, E, M, ct⟩ := s
 obtain ⟨⟨vs, hmv, hall⟩, hv⟩ := hp
 refine (p_ring (H.get 1 rfl) (H.get 0 rfl) (gr_slf (H.sl 2 rfl)) (hmv.le H.old) (hall.le H.old) ok.2.2.2.1 ok.2.2.1 ok.2.1 (Lies.start H.gn H.abs)).mono ?_
 rintro v σ' ⟨us, hu, K⟩
 rw [List.append_nil] at K
 exact ⟨us, hu, H.then K⟩
theorem ents_mem : ∀ {us : List Value} {M : List (List Int)} {i : Nat}, us.length = M.length → i < M.length → Ent.sl 3 1 (us.getD i undef) (M.getD i []).length ((M.getD i []).map (Value.int .i64)) ∈ ents us M
 | [], [], _, _, hi => absurd hi (Nat.not_lt_zero _)
 | _ :: _, _ :: _, 0, _, _ => List.mem_cons_self ..
 | _ :: us, _ :: M, i + 1, h, hi => List.mem_cons_of_mem _ (ents_mem (us := us) (M := M) (i := i) (by simpa using h) (by simpa using hi))
theorem ents_get {us : List Value} {M : List (List Int)} {i : Nat} (hu : us.length = M.length) (H : Lies G A F σ L) (hs : ∀ x ∈ ents us M, x ∈ L) (hi : i < M.length) : SlF σ.get 1 (us.getD i undef) (M.getD i []).length ((M.getD i []).map (Value.int .i64)) :=
 (gr_slf (show GRow G σ 3 1 (us.getD i undef) (M.getD i []).length ((M.getD i []).map (Value.int .i64)) from H.ok.mem _ (hs _ (ents_mem hu hi)))).slf
theorem ring_in {e : Ent} {X P B : List Ent} (H : Lies G A F σ (e :: (X ++ (P ++ (B ++ L))))) : Lies G A F σ (B ++ (e :: (P ++ (X ++ L)))) := by
 refine H.perm ?_
 refine List.Perm.trans (.cons _ ?_) List.perm_middle.symm
 refine (List.perm_append_comm_assoc ..).trans ?_
 refine (List.Perm.append_left _ (List.perm_append_comm_assoc ..)).trans ?_
 exact List.perm_append_comm_assoc ..
end
set_option maxHeartbeats 16000000 in
theorem rep_law {G : Nat} {σ0 : Mem} {v1 : Value} {vs : List Value} {l : List (List Int)} {often far : Int} (hG : G ≤ σ0.next) (hno : σ0.abs = Abs.no) (CK : SCall G Tryz.prog 4 #[] σ0 (.bool true) σ0) (hl : SlF σ0.get 1 v1 l.length vs) (hal : AllF σ0.get vs l) (ho1 : -9223372036854775808 ≤ often) (ho2 : often ≤ 9223372036854775807) (hf1 : -9223372036854775808 ≤ far) (hf2 : far ≤ 9223372036854775807) :
  WC G Tryz.prog 6 #[v1, .int .i64 often, .int .i64 far] σ0 fun v _ => v = .bool true := by
 have H := Lies.start hG hno
 generalize σ0.get = F0 at H hl hal
 obtain ⟨F, hF⟩ : ∃ F, F = F0 := ⟨_, rfl⟩
 have le0 : Le F0 F := fun b y h => hF ▸ h
 rw [← hF] at H
 clear hF
 have ho := pickOf_in often (show (0 : Int) < 5 by decide)
 have hf := pickOf_in far (show (0 : Int) < 1000 by decide)
 refine WC.enter (fn := Tryz.f6) Tryz.func6 rfl ?_
 refine W.rg [(0, v1), (1, .int .i64 often), (2, .int .i64 far)] fun TA => ?_
 refine W.seq (W.region ?_)
 refine RW.v ?_
 refine RW.nil ?_
 refine W.rg [(0, v1), (1, .int .i64 often), (2, .int .i64 far)] fun TA => ?_
 refine W.seq (W.region ?_)
 refine RW.cl ?_
 refine ⟨_, _, CK, ?_⟩
 refine RW.v ?_
 refine RW.nil ?_
 refine W.rg [(0, v1), (1, .int .i64 often), (2, .int .i64 far), (7, .bool true)] fun TA => ?_
 refine W.seq ?_
 refine W.seq (W.region ?_)
 refine RW.v ?_
 refine RW.len (by kernel_rfl) (by kernel_rfl) rfl rfl rfl rfl ((hl.le le0).len (e := 48) (by kernel_rfl)) (by kernel_rfl) ?_
 refine RW.v ?_
 refine RW.nil ?_
 refine W.rg [(0, v1), (1, .int .i64 often), (2, .int .i64 far), (7, .bool true), (21, .bool (decide ((l.length : Int) > 60)))] fun TA => ?_
 refine W.cond rfl (fun hc1 => ?_) (fun hc1 => ?_)
 ·have hc1b := hc1
  have hc1 := of_decide_eq_true hc1
  refine W.seq (W.region ?_)
  iterate 2 refine RW.v ?_
  refine RW.nil ?_
  refine W.ret ?_
  refine seqQ_ret ?_
  refine endG (by rfl) (by exact resL_tmp rfl) ?_
  exact rfl
 ·have hc1b := hc1
  have hc1 := of_decide_eq_false hc1
  refine W.skip ?_
  refine W.seq (W.region ?_)
  refine RW.cl ?_
  refine WC.enter (fn := Tryz.f9) Tryz.func9 rfl ?_
  refine W.rg [] fun TA => ?_
  refine W.seq (W.region ?_)
  refine RW.v ?_
  refine RW.nil ?_
  refine W.rg [] fun TA => ?_
  refine W.seq (W.region ?_)
  refine RW.val (v := .agg #[.bool false, .slice none 0 0, .slice none 0 0, .int .i64 0]) (by kernel_rfl) (by kernel_rfl) (by kernel_rfl) (by kernel_rfl) ?_
  refine RW.mk H (.row ⟨[.bool false, .slice none 0 0, .slice none 0 0, .int .i64 0], 90, false⟩) ?_
  clear H; intro _ b2 _ H
  refine RW.val (v := .agg #[.pointer (some ⟨b2, 0, none⟩)]) (by kernel_rfl) (by kernel_rfl) (by kernel_rfl) (by kernel_rfl) ?_
  refine RW.mk H (.row ⟨[pt b2], 92, false⟩) ?_
  clear H; intro _ b3 _ H
  refine RW.v ?_
  refine RW.nil ?_
  refine W.ret ?_
  refine endG (by rfl) (by exact resL_tmp rfl) ?_
  refine RW.v ?_
  refine RW.nil ?_
  refine W.rg [(0, v1), (1, .int .i64 often), (2, .int .i64 far), (7, .bool true), (8, pp b3)] fun TA => ?_
  refine W.seq (W.region ?_)
  refine RW.v ?_
  refine RW.cl ?_
  refine ⟨_, _, (s_pick (G := G) (often) 5 (by omega) (by omega) (by decide) (by decide)), ?_⟩
  refine RW.valE (v' := .int .i64 (1 + (pickOf often 5))) (by kernel_rfl) (by kernel_rfl) rfl (congrArg (Value.int .i64) (wrap_in (by omega) (by omega))) (by kernel_rfl) ?_
  refine RW.v ?_
  refine RW.nil ?_
  refine W.rg [(0, v1), (1, .int .i64 (1 + (pickOf often 5))), (2, .int .i64 far), (7, .bool true), (8, pp b3)] fun TA => ?_
  refine W.seq (W.region ?_)
  refine RW.v ?_
  refine RW.nil ?_
  refine W.rg [(0, v1), (1, .int .i64 (1 + (pickOf often 5))), (2, .int .i64 far), (7, .bool true), (8, pp b3), (9, .int .i64 0)] fun TA => ?_
  refine W.seq ?_
  refine W.seq (W.region ?_)
  refine RW.v ?_
  refine RW.nil ?_
  refine W.rg [(0, v1), (1, .int .i64 (1 + (pickOf often 5))), (2, .int .i64 far), (7, .bool true), (8, pp b3), (9, .int .i64 0), (10, .int .i64 0)] fun TA => ?_
  refine W.block ?_
  replace H := H.nilSl 3 1
  replace H := H.front 1 rfl
  dsimp only [delL] at H
  replace H := H.front 2 rfl
  dsimp only [delL] at H
  refine W.loop (fun mm ta σ => ∃ (i : Nat) (many : Nat) (F : Nat → Option Blk2) (M : List (List Int)) (ct : Int) (q : Nat) (r : Nat) (ev : Value) (mv : Value), (mm + i = l.length) ∧ (many ≤ i) ∧ (M.length = min many 20) ∧ (Le F0 F) ∧ (RS.Ok ⟨false, [], M, ct⟩) ∧ (StP F ev mv ⟨false, [], M, ct⟩) ∧ Lies G Abs.no F σ ((PE q r ev mv ⟨false, [], M, ct⟩ ++ ([]))) ∧ ta 0 = v1 ∧ ta 1 = .int .i64 (1 + (pickOf often 5)) ∧ ta 2 = .int .i64 far ∧ ta 7 = .bool true ∧ ta 8 = .pointer (some ⟨q, 0, none⟩) ∧ ta 9 = .int .i64 ((many : Nat) : Int) ∧ ta 10 = .int .i64 ((i : Nat) : Int)) l.length ?_ ?_
  ·exact ⟨0, 0, F, [], 0, b3, b2, .slice none 0 0, .slice none 0 0, (by omega), (by omega), rfl, le0, new_ok, ⟨⟨[], .nil, trivial⟩, fun _ => rfl⟩, H, rfl, rfl, rfl, rfl, rfl, rfl, rfl⟩
  clear H
  rintro mm ta _ ⟨i, many, F, M, ct, q, r, ev, mv, hm, hmi, hcnt, le0, ok, hp, H, e0, e1, e2, e7, e8, e9, e10⟩
  refine W.rst [(0, v1), (1, .int .i64 (1 + (pickOf often 5))), (2, .int .i64 far), (7, .bool true), (8, .pointer (some ⟨q, 0, none⟩)), (9, .int .i64 ((many : Nat) : Int)), (10, .int .i64 ((i : Nat) : Int))] ⟨e0, e1, e2, e7, e8, e9, e10, trivial⟩ fun TA => ?_
  clear e0 e1 e2 e7 e8 e9 e10
  refine W.seq ?_
  refine W.seq (W.region ?_)
  iterate 2 refine RW.v ?_
  refine RW.len (by kernel_rfl) (by kernel_rfl) rfl rfl rfl rfl ((hl.le le0).len (e := 48) (by kernel_rfl)) (by kernel_rfl) ?_
  refine RW.v ?_
  refine RW.nil ?_
  refine W.rg [(0, v1), (1, .int .i64 (1 + (pickOf often 5))), (2, .int .i64 far), (7, .bool true), (8, pp q), (9, .int .i64 ((many : Nat) : Int)), (10, .int .i64 ((i : Nat) : Int)), (30, .bool (decide (((i : Nat) : Int) < (l.length : Int))))] fun TA => ?_
  refine W.cond rfl (fun hc4 => ?_) (fun hc4 => ?_)
  ·have hc4b := hc4
   have hc4 := of_decide_eq_true hc4
   have hil : i < l.length := by omega
   refine W.skip ?_
   refine W.seq ?_
   refine W.block ?_
   refine W.seq ?_
   refine W.seq (W.region ?_)
   iterate 2 refine RW.v ?_
   refine RW.idxF (hl.le le0) (by kernel_rfl) (by kernel_rfl) rfl Tryz.underlying54 (by kernel_rfl) rfl rfl ⟨by omega, by omega⟩ (by kernel_rfl) ?_
   intro b5 q6 r7 hF8 hE9
   rw [vs_at (vs := vs) (j := i) (by rw [hal.len]; omega)] at hE9
   refine RW.loads 1 (by kernel_rfl) (by kernel_rfl) rfl rfl (H.old _ _ hF8) hE9 rfl (by kernel_rfl) ?_
   refine RW.len (by kernel_rfl) (by kernel_rfl) rfl rfl rfl rfl (((hal.le le0).get (i := i) (by omega)).len (e := 3) (by kernel_rfl)) (by kernel_rfl) ?_
   refine RW.v ?_
   refine RW.nil ?_
   refine W.rg [(0, v1), (1, .int .i64 (1 + (pickOf often 5))), (2, .int .i64 far), (7, .bool true), (8, pp q), (9, .int .i64 ((many : Nat) : Int)), (10, .int .i64 ((i : Nat) : Int)), (38, .bool (decide (((l.getD i []).length : Int) > 20)))] fun TA => ?_
   refine W.cond rfl (fun hc10 => ?_) (fun hc10 => ?_)
   ·have hc10b := hc10
    have hc10 := of_decide_eq_true hc10
    refine W.seq (W.region ?_)
    iterate 2 refine RW.v ?_
    refine RW.nil ?_
    refine W.ret ?_
    refine seqQ_ret ?_
    refine blkQ_ret ?_
    refine seqQ_ret ?_
    refine rndQ_ret ?_
    refine blkQ_ret ?_
    refine seqQ_ret ?_
    refine endG (by rfl) (by exact resL_tmp rfl) ?_
    exact rfl
   ·have hc10b := hc10
    have hc10 := of_decide_eq_false hc10
    refine W.skip ?_
    refine W.seq ?_
    refine W.seq (W.region ?_)
    refine RW.v ?_
    refine RW.cl ?_
    refine ((P_start false ok hp (Lies.rot (B := ([])) (X := PE q r ev mv ⟨false, [], M, ct⟩) H)).mono ?_)
    clear H
    rw [show (start ⟨false, [], M, ct⟩ false) = (0, ⟨true, [], M, ct⟩) from (start_off rfl)]
    rintro _ _ ⟨rfl, F, ev11, mv12, le, hp, K13⟩
    replace le0 := fun b y h => le b y (le0 b y h)
    dsimp only at hp
    have H : Lies G (Abs.no) F _ ((PE q r ev11 mv12 ⟨true, [], M, ct⟩ ++ ([]))) := Lies.rot (B := PE q r ev11 mv12 ⟨true, [], M, ct⟩) (X := ([])) K13
    clear K13
    have ok1 : RS.Ok ⟨true, [], M, ct⟩ := (ok_on ok)
    refine RW.v ?_
    refine RW.nil ?_
    refine W.c0 ?_
    refine W.skip ?_
    refine W.seq ?_
    refine W.seq (W.region ?_)
    refine RW.v ?_
    refine RW.nil ?_
    refine W.rg [(0, v1), (1, .int .i64 (1 + (pickOf often 5))), (2, .int .i64 far), (7, .bool true), (8, pp q), (9, .int .i64 ((many : Nat) : Int)), (10, .int .i64 ((i : Nat) : Int)), (11, .int .i64 0)] fun TA => ?_
    refine W.block ?_
    refine W.loop (fun mm2 ta σ => ∃ (j : Nat) (F : Nat → Option Blk2) (ev1 : Value) (mv1 : Value), (mm2 + j = (l.getD i []).length) ∧ (Le F0 F) ∧ (RS.Ok ⟨true, (l.getD i []).take j, M, ct⟩) ∧ (StP F ev1 mv1 ⟨true, (l.getD i []).take j, M, ct⟩) ∧ Lies G Abs.no F σ ((PE q r ev1 mv1 ⟨true, (l.getD i []).take j, M, ct⟩ ++ ([]))) ∧ ta 0 = v1 ∧ ta 1 = .int .i64 (1 + (pickOf often 5)) ∧ ta 2 = .int .i64 far ∧ ta 7 = .bool true ∧ ta 8 = .pointer (some ⟨q, 0, none⟩) ∧ ta 9 = .int .i64 ((many : Nat) : Int) ∧ ta 10 = .int .i64 ((i : Nat) : Int) ∧ ta 11 = .int .i64 ((j : Nat) : Int)) ((l.getD i []).length) ?_ ?_
    ·exact ⟨0, F, _, _, (by omega), le0, ok1, hp, H, rfl, rfl, rfl, rfl, rfl, rfl, rfl, rfl⟩
    clear H
    rintro mm2 ta _ ⟨j, F, ev1, mv1, hm2, le0, ok1, hp, H, e0, e1, e2, e7, e8, e9, e10, e11⟩
    refine W.rst [(0, v1), (1, .int .i64 (1 + (pickOf often 5))), (2, .int .i64 far), (7, .bool true), (8, .pointer (some ⟨q, 0, none⟩)), (9, .int .i64 ((many : Nat) : Int)), (10, .int .i64 ((i : Nat) : Int)), (11, .int .i64 ((j : Nat) : Int))] ⟨e0, e1, e2, e7, e8, e9, e10, e11, trivial⟩ fun TA => ?_
    clear e0 e1 e2 e7 e8 e9 e10 e11
    refine W.seq ?_
    refine W.seq (W.region ?_)
    iterate 3 refine RW.v ?_
    refine RW.idxF (hl.le le0) (by kernel_rfl) (by kernel_rfl) rfl Tryz.underlying54 (by kernel_rfl) rfl rfl ⟨by omega, by omega⟩ (by kernel_rfl) ?_
    intro b14 q15 r16 hF17 hE18
    rw [vs_at (vs := vs) (j := i) (by rw [hal.len]; omega)] at hE18
    refine RW.loads 1 (by kernel_rfl) (by kernel_rfl) rfl rfl (H.old _ _ hF17) hE18 rfl (by kernel_rfl) ?_
    refine RW.len (by kernel_rfl) (by kernel_rfl) rfl rfl rfl rfl (((hal.le le0).get (i := i) (by omega)).len (e := 3) (by kernel_rfl)) (by kernel_rfl) ?_
    refine RW.v ?_
    refine RW.nil ?_
    refine W.rg [(0, v1), (1, .int .i64 (1 + (pickOf often 5))), (2, .int .i64 far), (7, .bool true), (8, pp q), (9, .int .i64 ((many : Nat) : Int)), (10, .int .i64 ((i : Nat) : Int)), (11, .int .i64 ((j : Nat) : Int)), (49, .bool (decide (((j : Nat) : Int) < ((l.getD i []).length : Int))))] fun TA => ?_
    refine W.cond rfl (fun hc19 => ?_) (fun hc19 => ?_)
    ·have hc19b := hc19
     have hc19 := of_decide_eq_true hc19
     refine W.skip ?_
     refine W.seq ?_
     refine W.block ?_
     refine W.seq (W.region ?_)
     iterate 3 refine RW.v ?_
     refine RW.idxF (hl.le le0) (by kernel_rfl) (by kernel_rfl) rfl Tryz.underlying54 (by kernel_rfl) rfl rfl ⟨by omega, by omega⟩ (by kernel_rfl) ?_
     intro b20 q21 r22 hF23 hE24
     rw [vs_at (vs := vs) (j := i) (by rw [hal.len]; omega)] at hE24
     refine RW.loads 1 (by kernel_rfl) (by kernel_rfl) rfl rfl (H.old _ _ hF23) hE24 rfl (by kernel_rfl) ?_
     refine RW.v ?_
     refine RW.idxF ((hal.le le0).get (i := i) (by omega)) (by kernel_rfl) (by kernel_rfl) rfl Tryz.underlying48 (by kernel_rfl) rfl rfl ⟨by omega, by omega⟩ (by kernel_rfl) ?_
     intro b25 q26 r27 hF28 hE29
     rw [ints_at (l := (l.getD i [])) (j := j) (by omega)] at hE29
     refine RW.loads 1 (by kernel_rfl) (by kernel_rfl) rfl rfl (H.old _ _ hF28) hE29 rfl (by kernel_rfl) ?_
     have hj2 : j < (l.getD i []).length := by omega
     refine RW.cl ?_
     refine ((P_record ((l.getD i []).getD j 0) ok1 hp (Lies.rot (B := ([])) (X := PE q r ev1 mv1 ⟨true, (l.getD i []).take j, M, ct⟩) H)).mono ?_)
     clear H
     rw [show (record ⟨true, (l.getD i []).take j, M, ct⟩ ((l.getD i []).getD j 0)) = (0, ⟨true, (l.getD i []).take j ++ [((l.getD i []).getD j 0)], M, ct⟩) from (record_on (by rw [List.length_take]; omega))]
     rintro _ _ ⟨rfl, F, ev30, mv31, le, hp, K32⟩
     replace le0 := fun b y h => le b y (le0 b y h)
     dsimp only at hp
     have H : Lies G (Abs.no) F _ ((PE q r ev30 mv31 ⟨true, (l.getD i []).take j ++ [((l.getD i []).getD j 0)], M, ct⟩ ++ ([]))) := Lies.rot (B := PE q r ev30 mv31 ⟨true, (l.getD i []).take j ++ [((l.getD i []).getD j 0)], M, ct⟩) (X := ([])) K32
     clear K32
     refine RW.v ?_
     refine RW.nil ?_
     refine W.c0 ?_
     refine W.skip ?_
     refine blkQ_normal ?_
     refine W.region ?_
     refine RW.v ?_
     refine RW.valE (v' := .int .i64 (((j : Nat) : Int) + 1)) (by kernel_rfl) (by kernel_rfl) rfl (congrArg (Value.int .i64) (wrap_in (by omega) (by omega))) (by kernel_rfl) ?_
     refine RW.v ?_
     refine RW.nil ?_
     rw [take_snocI hj2] at H hp
     exact ⟨rfl, mm2 - 1, by omega, j + 1, F, _, _, (by omega), le0, (ok_take ok (j + 1) (by omega)), hp, H, rfl, rfl, rfl, rfl, rfl, rfl, rfl, rfl⟩
    ·have hc19b := hc19
     have hc19 := of_decide_eq_false hc19
     refine W.exit _ ?_
     refine seqQ_exit ?_
     refine rndQ_exit ?_
     obtain rfl : j = (l.getD i []).length := by omega
     rw [List.take_length] at H hp ok1
     refine blkQ_here ?_
     refine W.seq ?_
     refine W.seq (W.region ?_)
     refine RW.v ?_
     rcases Nat.eq_zero_or_pos (l.getD i []).length with hX | hX
     ·refine RW.cl ?_
      refine ((P_stop 0 ok1 hp (Lies.rot (B := ([])) (X := PE q r ev1 mv1 ⟨true, (l.getD i []), M, ct⟩) H)).mono ?_)
      clear H
      rw [show (stop ⟨true, (l.getD i []), M, ct⟩ 0) = (0, ⟨false, [], M, ct⟩) from (stop_zero hX)]
      rintro _ _ ⟨rfl, F, ev33, mv34, le, hp, K35⟩
      replace le0 := fun b y h => le b y (le0 b y h)
      dsimp only at hp
      have H : Lies G (Abs.no) F _ ((PE q r ev33 mv34 ⟨false, [], M, ct⟩ ++ ([]))) := Lies.rot (B := PE q r ev33 mv34 ⟨false, [], M, ct⟩) (X := ([])) K35
      clear K35
      refine RW.v ?_
      refine RW.nil ?_
      refine W.c0 ?_
      refine W.skip ?_
      refine W.seq ?_
      refine W.seq (W.region ?_)
      iterate 2 refine RW.v ?_
      refine RW.idxF (hl.le le0) (by kernel_rfl) (by kernel_rfl) rfl Tryz.underlying54 (by kernel_rfl) rfl rfl ⟨by omega, by omega⟩ (by kernel_rfl) ?_
      intro b36 q37 r38 hF39 hE40
      rw [vs_at (vs := vs) (j := i) (by rw [hal.len]; omega)] at hE40
      refine RW.loads 1 (by kernel_rfl) (by kernel_rfl) rfl rfl (H.old _ _ hF39) hE40 rfl (by kernel_rfl) ?_
      refine RW.len (by kernel_rfl) (by kernel_rfl) rfl rfl rfl rfl (((hal.le le0).get (i := i) (by omega)).len (e := 3) (by kernel_rfl)) (by kernel_rfl) ?_
      refine RW.valE (v' := .bool true) (by kernel_rfl) (by kernel_rfl) rfl (congrArg Value.bool (beq_iff_eq.2 (by omega))) (by kernel_rfl) ?_
      refine RW.nil ?_
      refine W.c1 ?_
      refine W.exit _ ?_
      refine seqQ_exit ?_
      refine blkQ_here ?_
      refine W.region ?_
      refine RW.v ?_
      refine RW.valE (v' := .int .i64 (((i : Nat) : Int) + 1)) (by kernel_rfl) (by kernel_rfl) rfl (congrArg (Value.int .i64) (wrap_in (by omega) (by omega))) (by kernel_rfl) ?_
      refine RW.v ?_
      refine RW.nil ?_
      exact ⟨rfl, mm - 1, by omega, i + 1, many, F, M, ct, _, _, _, _, (by omega), (by omega), hcnt, le0, ok, hp, H, rfl, rfl, rfl, rfl, rfl, rfl, rfl⟩
     ·refine RW.cl ?_
      refine ((P_stop 0 ok1 hp (Lies.rot (B := ([])) (X := PE q r ev1 mv1 ⟨true, (l.getD i []), M, ct⟩) H)).mono ?_)
      clear H
      rw [show (stop ⟨true, (l.getD i []), M, ct⟩ 0) = (0, ⟨false, [], pushM (l.getD i []) M, ct⟩) from (stop_pos hX)]
      rintro _ _ ⟨rfl, F, ev41, mv42, le, hp, K43⟩
      replace le0 := fun b y h => le b y (le0 b y h)
      dsimp only at hp
      have H : Lies G (Abs.no) F _ ((PE q r ev41 mv42 ⟨false, [], pushM (l.getD i []) M, ct⟩ ++ ([]))) := Lies.rot (B := PE q r ev41 mv42 ⟨false, [], pushM (l.getD i []) M, ct⟩) (X := ([])) K43
      clear K43
      have ok2 : RS.Ok ⟨false, [], pushM (l.getD i []) M, ct⟩ := (ok_push ok hX (by omega))
      refine RW.v ?_
      refine RW.nil ?_
      refine W.c0 ?_
      refine W.skip ?_
      refine W.seq ?_
      refine W.seq (W.region ?_)
      iterate 2 refine RW.v ?_
      refine RW.idxF (hl.le le0) (by kernel_rfl) (by kernel_rfl) rfl Tryz.underlying54 (by kernel_rfl) rfl rfl ⟨by omega, by omega⟩ (by kernel_rfl) ?_
      intro b44 q45 r46 hF47 hE48
      rw [vs_at (vs := vs) (j := i) (by rw [hal.len]; omega)] at hE48
      refine RW.loads 1 (by kernel_rfl) (by kernel_rfl) rfl rfl (H.old _ _ hF47) hE48 rfl (by kernel_rfl) ?_
      refine RW.len (by kernel_rfl) (by kernel_rfl) rfl rfl rfl rfl (((hal.le le0).get (i := i) (by omega)).len (e := 3) (by kernel_rfl)) (by kernel_rfl) ?_
      refine RW.valE (v' := .bool false) (by kernel_rfl) (by kernel_rfl) rfl (congrArg Value.bool (beq_eq_false_iff_ne.2 (by omega))) (by kernel_rfl) ?_
      refine RW.nil ?_
      refine W.c0 ?_
      refine W.skip ?_
      refine W.seq (W.region ?_)
      refine RW.v ?_
      refine RW.valE (v' := .int .i64 (((many : Nat) : Int) + 1)) (by kernel_rfl) (by kernel_rfl) rfl (congrArg (Value.int .i64) (wrap_in (by omega) (by omega))) (by kernel_rfl) ?_
      refine RW.v ?_
      refine RW.nil ?_
      refine W.rg [(0, v1), (1, .int .i64 (1 + (pickOf often 5))), (2, .int .i64 far), (7, .bool true), (8, pp q), (9, .int .i64 (((many : Nat) : Int) + 1)), (10, .int .i64 ((i : Nat) : Int))] fun TA => ?_
      refine W.seq (W.region ?_)
      iterate 2 refine RW.v ?_
      have eP : play ⟨false, [], pushM (l.getD i []) M, ct⟩ (1 + (pickOf often 5)) = (0, rep (1 + (pickOf often 5)).toNat (l.getD i []), ⟨false, [], pushM (l.getD i []) M, min ct (2305843009213693951 - (1 + (pickOf often 5))) + (1 + (pickOf often 5))⟩) := play_off hX (by omega) (by omega) (by omega)
      refine RW.cl ?_
      refine ((P_play (1 + (pickOf often 5)) ok2 hp H).mono ?_)
      clear H
      rw [eP]
      rintro _ _ ⟨rv, rfl, F, ev49, mv50, le, hrv, hp, H⟩
      replace le0 := fun b y h => le b y (le0 b y h)
      dsimp only at hp hrv
      have ok3 : RS.Ok ⟨false, [], pushM (l.getD i []) M, min ct (2305843009213693951 - (1 + (pickOf often 5))) + (1 + (pickOf often 5))⟩ := by have := play_ok (n := 1 + (pickOf often 5)) ok2; rw [eP] at this; exact this
      iterate 5 refine RW.v ?_
      refine RW.nil ?_
      refine W.rg [(0, v1), (1, .int .i64 (1 + (pickOf often 5))), (2, .int .i64 far), (7, .bool true), (8, pp q), (9, .int .i64 (((many : Nat) : Int) + 1)), (10, .int .i64 ((i : Nat) : Int)), (12, rv), (13, .int .i64 0)] fun TA => ?_
      refine W.seq ?_
      refine W.seq (W.region ?_)
      iterate 3 refine RW.v ?_
      refine RW.val (by rfl) (by kernel_rfl) rfl (by kernel_rfl) ?_
      refine RW.len (by rfl) (by kernel_rfl) rfl rfl rfl rfl (hrv.len (e := 3) (by kernel_rfl)) (by kernel_rfl) ?_
      refine RW.val (by rfl) (by kernel_rfl) rfl (by kernel_rfl) ?_
      refine RW.val (by rfl) (by kernel_rfl) rfl (by kernel_rfl) ?_
      refine RW.val (by rfl) (by kernel_rfl) rfl (by kernel_rfl) ?_
      refine RW.idxF (hl.le le0) (by rfl) (by kernel_rfl) rfl Tryz.underlying54 (by kernel_rfl) rfl rfl ⟨by omega, by omega⟩ (by kernel_rfl) ?_
      intro b51 q52 r53 hF54 hE55
      rw [vs_at (vs := vs) (j := i) (by rw [hal.len]; omega)] at hE55
      refine RW.loads 1 (by rfl) (by kernel_rfl) rfl rfl (H.old _ _ hF54) hE55 rfl (by kernel_rfl) ?_
      refine RW.len (by rfl) (by kernel_rfl) rfl rfl rfl rfl (((hal.le le0).get (i := i) (by omega)).len (e := 3) (by kernel_rfl)) (by kernel_rfl) ?_
      have hmul := mul_in (x := 1 + (pickOf often 5)) (k := (l.getD i []).length) (by omega) (by omega) (by omega)
      have hrm := rep_mul (X := (l.getD i [])) (n := 1 + (pickOf often 5)) (by omega)
      refine RW.valE (v' := .int .i64 ((1 + (pickOf often 5)) * ((l.getD i []).length : Int))) (by rfl) (by kernel_rfl) rfl (congrArg (Value.int .i64) (wrap_in (by omega) (by omega))) (by kernel_rfl) ?_
      refine RW.valE (v' := .bool false) (by rfl) (by kernel_rfl) rfl (congrArg Value.bool (bne_eq_false_iff_eq.2 (by exact rep_mul (by omega)))) (by kernel_rfl) ?_
      refine RW.v ?_
      refine RW.nil ?_
      refine W.c0 ?_
      refine W.skip ?_
      refine W.seq (W.region ?_)
      refine RW.v ?_
      refine RW.nil ?_
      refine W.rg [(0, v1), (1, .int .i64 (1 + (pickOf often 5))), (2, .int .i64 far), (7, .bool true), (8, pp q), (9, .int .i64 (((many : Nat) : Int) + 1)), (10, .int .i64 ((i : Nat) : Int)), (12, rv), (14, .int .i64 0)] fun TA => ?_
      refine W.block ?_
      refine W.loop (fun mm3 ta σ => ∃ (k : Nat), (mm3 + k = (rep (1 + pickOf often 5).toNat (l.getD i [])).length) ∧ Lies G Abs.no F σ ((PE q r ev49 mv50 ⟨false, [], pushM (l.getD i []) M, min ct (2305843009213693951 - (1 + (pickOf often 5))) + (1 + (pickOf often 5))⟩ ++ ([]))) ∧ ta 0 = v1 ∧ ta 1 = .int .i64 (1 + (pickOf often 5)) ∧ ta 2 = .int .i64 far ∧ ta 7 = .bool true ∧ ta 8 = .pointer (some ⟨q, 0, none⟩) ∧ ta 9 = .int .i64 (((many : Nat) : Int) + 1) ∧ ta 10 = .int .i64 ((i : Nat) : Int) ∧ ta 12 = rv ∧ ta 14 = .int .i64 ((k : Nat) : Int)) ((rep (1 + pickOf often 5).toNat (l.getD i [])).length) ?_ ?_
      ·exact ⟨0, (by omega), H, rfl, rfl, rfl, rfl, rfl, rfl, rfl, rfl, rfl⟩
      clear H
      rintro mm3 ta _ ⟨k, hm3, H, e0, e1, e2, e7, e8, e9, e10, e12, e14⟩
      refine W.rst [(0, v1), (1, .int .i64 (1 + (pickOf often 5))), (2, .int .i64 far), (7, .bool true), (8, .pointer (some ⟨q, 0, none⟩)), (9, .int .i64 (((many : Nat) : Int) + 1)), (10, .int .i64 ((i : Nat) : Int)), (12, rv), (14, .int .i64 ((k : Nat) : Int))] ⟨e0, e1, e2, e7, e8, e9, e10, e12, e14, trivial⟩ fun TA => ?_
      clear e0 e1 e2 e7 e8 e9 e10 e12 e14
      refine W.seq ?_
      refine W.seq (W.region ?_)
      iterate 2 refine RW.v ?_
      refine RW.len (by kernel_rfl) (by kernel_rfl) rfl rfl rfl rfl (hrv.len (e := 3) (by kernel_rfl)) (by kernel_rfl) ?_
      refine RW.v ?_
      refine RW.nil ?_
      refine W.rg [(0, v1), (1, .int .i64 (1 + (pickOf often 5))), (2, .int .i64 far), (7, .bool true), (8, pp q), (9, .int .i64 (((many : Nat) : Int) + 1)), (10, .int .i64 ((i : Nat) : Int)), (12, rv), (14, .int .i64 ((k : Nat) : Int)), (96, .bool (decide (((k : Nat) : Int) < ((rep (1 + (pickOf often 5)).toNat (l.getD i [])).length : Int))))] fun TA => ?_
      refine W.cond rfl (fun hc56 => ?_) (fun hc56 => ?_)
      ·have hc56b := hc56
       have hc56 := of_decide_eq_true hc56
       refine W.skip ?_
       refine W.seq ?_
       refine W.block ?_
       refine W.seq ?_
       refine W.drawn (by kernel_rfl) (by kernel_rfl) H.gn ?_
       have H57 := H
       iterate 2 refine RW.v ?_
       refine RW.idxF hrv (by kernel_rfl) (by kernel_rfl) rfl Tryz.underlying48 (by kernel_rfl) rfl rfl ⟨by omega, by omega⟩ (by kernel_rfl) ?_
       intro b58 q59 r60 hF61 hE62
       rw [ints_at (l := (rep (1 + (pickOf often 5)).toNat (l.getD i []))) (j := k) (by omega)] at hE62
       refine RW.loads 1 (by kernel_rfl) (by kernel_rfl) rfl rfl (H57.old _ _ hF61) hE62 rfl (by kernel_rfl) ?_
       iterate 2 refine RW.v ?_
       refine RW.idxF (hl.le le0) (by kernel_rfl) (by kernel_rfl) rfl Tryz.underlying54 (by kernel_rfl) rfl rfl ⟨by omega, by omega⟩ (by kernel_rfl) ?_
       intro b63 q64 r65 hF66 hE67
       rw [vs_at (vs := vs) (j := i) (by rw [hal.len]; omega)] at hE67
       refine RW.loads 1 (by kernel_rfl) (by kernel_rfl) rfl rfl (H57.old _ _ hF66) hE67 rfl (by kernel_rfl) ?_
       iterate 3 refine RW.v ?_
       refine RW.idxF (hl.le le0) (by kernel_rfl) (by kernel_rfl) rfl Tryz.underlying54 (by kernel_rfl) rfl rfl ⟨by omega, by omega⟩ (by kernel_rfl) ?_
       intro b68 q69 r70 hF71 hE72
       rw [vs_at (vs := vs) (j := i) (by rw [hal.len]; omega)] at hE72
       refine RW.loads 1 (by kernel_rfl) (by kernel_rfl) rfl rfl (H57.old _ _ hF71) hE72 rfl (by kernel_rfl) ?_
       refine RW.len (by kernel_rfl) (by kernel_rfl) rfl rfl rfl rfl (((hal.le le0).get (i := i) (by omega)).len (e := 3) (by kernel_rfl)) (by kernel_rfl) ?_
       have em : Int.tmod (k : Int) ((l.getD i []).length : Int) = ((k % (l.getD i []).length : Nat) : Int) := tmod_nat _ _
       have hkm : k % (l.getD i []).length < (l.getD i []).length := Nat.mod_lt _ hX
       refine RW.vop (v := .int .i64 ((k % (l.getD i []).length : Nat) : Int)) (by kernel_rfl) (by kernel_rfl) (vop_fastBin rfl rfl rfl ((rem_fast (by omega)).trans (congrArg (fun z => some (Value.int .i64 z)) em))) (by kernel_rfl) ?_
       refine RW.idxF ((hal.le le0).get (i := i) (by omega)) (by kernel_rfl) (by kernel_rfl) rfl Tryz.underlying48 (by kernel_rfl) rfl rfl ⟨by omega, by omega⟩ (by kernel_rfl) ?_
       intro b73 q74 r75 hF76 hE77
       rw [ints_at (l := (l.getD i [])) (j := (k % (l.getD i []).length)) (by omega)] at hE77
       refine RW.loads 1 (by kernel_rfl) (by kernel_rfl) rfl rfl (H57.old _ _ hF76) hE77 rfl (by kernel_rfl) ?_
       refine RW.valE (v' := .bool false) (by kernel_rfl) (by kernel_rfl) rfl (congrArg Value.bool (bne_eq_false_iff_eq.2 (by exact rep_get (by omega)))) (by kernel_rfl) ?_
       refine RW.nil ?_
       refine ⟨⟨by kernel_rfl, ⟨trivial, trivial, trivial, dyn_row (H57.old _ _ hF61) (H57.old _ _ hF61) ⟨fun h => Bool.noConfusion h, fun h => Bool.noConfusion h, fun h => Bool.noConfusion h, fun h => Bool.noConfusion h, fun h => Bool.noConfusion h, fun h => Bool.noConfusion h, fun h => Bool.noConfusion h, fun h => Bool.noConfusion h, fun h => Bool.noConfusion h, fun h => Bool.noConfusion h, fun h => Bool.noConfusion h, fun h => Bool.noConfusion h, fun h => Bool.noConfusion h, fun h => Bool.noConfusion h, fun h => Bool.noConfusion h, fun h => Bool.noConfusion h, fun h => Bool.noConfusion h, fun h => Bool.noConfusion h, trivial⟩, trivial, trivial, trivial, dyn_row (H57.old _ _ hF66) (H57.old _ _ hF66) ⟨fun h => Bool.noConfusion h, fun h => Bool.noConfusion h, fun h => Bool.noConfusion h, fun h => Bool.noConfusion h, fun h => Bool.noConfusion h, fun h => Bool.noConfusion h, fun h => Bool.noConfusion h, fun h => Bool.noConfusion h, fun h => Bool.noConfusion h, fun h => Bool.noConfusion h, fun h => Bool.noConfusion h, fun h => Bool.noConfusion h, fun h => Bool.noConfusion h, fun h => Bool.noConfusion h, fun h => Bool.noConfusion h, fun h => Bool.noConfusion h, fun h => Bool.noConfusion h, fun h => Bool.noConfusion h, trivial⟩, trivial, trivial, trivial, trivial, dyn_row (H57.old _ _ hF71) (H57.old _ _ hF71) ⟨fun h => Bool.noConfusion h, fun h => Bool.noConfusion h, fun h => Bool.noConfusion h, fun h => Bool.noConfusion h, fun h => Bool.noConfusion h, fun h => Bool.noConfusion h, fun h => Bool.noConfusion h, fun h => Bool.noConfusion h, fun h => Bool.noConfusion h, fun h => Bool.noConfusion h, fun h => Bool.noConfusion h, fun h => Bool.noConfusion h, fun h => Bool.noConfusion h, fun h => Bool.noConfusion h, fun h => Bool.noConfusion h, fun h => Bool.noConfusion h, fun h => Bool.noConfusion h, fun h => Bool.noConfusion h, trivial⟩, trivial, trivial, trivial, dyn_row (H57.old _ _ hF76) (H57.old _ _ hF76) ⟨fun h => Bool.noConfusion h, fun h => Bool.noConfusion h, fun h => Bool.noConfusion h, fun h => Bool.noConfusion h, fun h => Bool.noConfusion h, fun h => Bool.noConfusion h, fun h => Bool.noConfusion h, fun h => Bool.noConfusion h, fun h => Bool.noConfusion h, fun h => Bool.noConfusion h, fun h => Bool.noConfusion h, fun h => Bool.noConfusion h, fun h => Bool.noConfusion h, fun h => Bool.noConfusion h, fun h => Bool.noConfusion h, fun h => Bool.noConfusion h, fun h => Bool.noConfusion h, fun h => Bool.noConfusion h, trivial⟩, trivial, trivial⟩⟩, ?_⟩
       replace H := H57
       clear H57
       refine W.c0 ?_
       refine W.skip ?_
       refine blkQ_normal ?_
       refine W.region ?_
       refine RW.v ?_
       refine RW.valE (v' := .int .i64 (((k : Nat) : Int) + 1)) (by kernel_rfl) (by kernel_rfl) rfl (congrArg (Value.int .i64) (wrap_in (by omega) (by omega))) (by kernel_rfl) ?_
       refine RW.v ?_
       refine RW.nil ?_
       exact ⟨rfl, mm3 - 1, by omega, k + 1, (by omega), H, rfl, rfl, rfl, rfl, rfl, rfl, rfl, rfl, rfl⟩
      ·have hc56b := hc56
       have hc56 := of_decide_eq_false hc56
       refine W.exit _ ?_
       refine seqQ_exit ?_
       refine rndQ_exit ?_
       refine blkQ_here ?_
       refine blkQ_normal ?_
       refine W.region ?_
       refine RW.v ?_
       refine RW.valE (v' := .int .i64 (((i : Nat) : Int) + 1)) (by kernel_rfl) (by kernel_rfl) rfl (congrArg (Value.int .i64) (wrap_in (by omega) (by omega))) (by kernel_rfl) ?_
       refine RW.v ?_
       refine RW.nil ?_
       exact ⟨rfl, mm - 1, by omega, i + 1, many + 1, F, pushM (l.getD i []) M, _, _, _, _, _, (by omega), (by omega), (by rw [push_len]; omega), le0, ok3, hp, H, rfl, rfl, rfl, rfl, rfl, rfl, rfl⟩
  ·have hc4b := hc4
   have hc4 := of_decide_eq_false hc4
   refine W.exit _ ?_
   refine seqQ_exit ?_
   refine rndQ_exit ?_
   refine blkQ_here ?_
   refine W.seq (W.region ?_)
   rcases Nat.eq_zero_or_pos M.length with hM0 | hM0
   ·refine RW.v ?_
    refine RW.cl ?_
    refine ⟨_, _, (s_pick (G := G) (far) 1000 (by omega) (by omega) (by decide) (by decide)), ?_⟩
    refine RW.v ?_
    refine RW.nil ?_
    refine W.rg [(2, .int .i64 (pickOf far 1000)), (7, .bool true), (8, pp q), (9, .int .i64 ((many : Nat) : Int))] fun TA => ?_
    refine W.seq (W.region ?_)
    refine RW.v ?_
    refine RW.cl ?_
    refine ((P_ring ok hp (Lies.rot (B := []) (X := PE q r ev mv ⟨false, [], M, ct⟩) H)).mono ?_)
    clear H
    rintro ra _ ⟨us, hu, H⟩
    dsimp only at H hu
    replace H : Lies G (Abs.no) F _ (.sl 48 1 ra M.length us :: (PE q r ev mv ⟨false, [], M, ct⟩ ++ (ents us M ++ ([])))) := ring_in (B := []) (X := ents us M) (P := PE q r ev mv ⟨false, [], M, ct⟩) H
    refine RW.v ?_
    refine RW.nil ?_
    refine W.rg [(2, .int .i64 (pickOf far 1000)), (7, .bool true), (8, pp q), (9, .int .i64 ((many : Nat) : Int)), (15, ra)] fun TA => ?_
    refine W.seq ?_
    refine W.seq (W.region ?_)
    refine RW.v ?_
    refine RW.len (by kernel_rfl) (by kernel_rfl) rfl rfl rfl rfl ((H.sl 0 rfl).len (by kernel_rfl)) (by kernel_rfl) ?_
    refine RW.v ?_
    refine RW.vop (v := .int .i64 (min ((many : Nat) : Int) 20)) (by kernel_rfl) (by kernel_rfl) (vop_min rfl rfl rfl rfl rfl) (by kernel_rfl) ?_
    refine RW.valE (v' := .bool false) (by kernel_rfl) (by kernel_rfl) rfl (congrArg Value.bool (bne_eq_false_iff_eq.2 (by omega))) (by kernel_rfl) ?_
    refine RW.v ?_
    refine RW.val (by rfl) (by kernel_rfl) rfl (by kernel_rfl) ?_
    refine RW.val (by rfl) (by kernel_rfl) rfl (by kernel_rfl) ?_
    refine RW.cl (hw := by rfl) ?_
    refine ((P_rotate (pickOf far 1000) ok hp (Lies.rot (B := ([.sl 48 1 ra M.length us])) (X := PE q r ev mv ⟨false, [], M, ct⟩) H)).mono ?_)
    clear H
    rw [show (rotate ⟨false, [], M, ct⟩ (pickOf far 1000)) = (13, ⟨false, [], M, ct⟩) from (rotate_zero hM0)]
    rintro _ _ ⟨rfl, F, ev78, mv79, le, hp, K80⟩
    replace le0 := fun b y h => le b y (le0 b y h)
    dsimp only at hp
    have H : Lies G (Abs.no) F _ (.sl 48 1 ra M.length us :: (PE q r ev78 mv79 ⟨false, [], M, ct⟩ ++ (ents us M ++ ([])))) := Lies.rot (B := PE q r ev78 mv79 ⟨false, [], M, ct⟩) (X := ([.sl 48 1 ra M.length us])) K80
    clear K80
    refine RW.val (by rfl) (by kernel_rfl) rfl (by kernel_rfl) ?_
    refine RW.val (by rfl) (by kernel_rfl) rfl (by kernel_rfl) ?_
    refine RW.valE (v' := .bool false) (by rfl) (by kernel_rfl) rfl (congrArg Value.bool (decide_eq_false (by omega))) (by kernel_rfl) ?_
    refine RW.val (by rfl) (by kernel_rfl) rfl (by kernel_rfl) ?_
    iterate 2 refine RW.v ?_
    refine RW.val (by rfl) (by kernel_rfl) rfl (by kernel_rfl) ?_
    refine RW.val (by rfl) (by kernel_rfl) rfl (by kernel_rfl) ?_
    refine RW.valE (v' := .int .i64 (0 - (pickOf far 1000))) (by rfl) (by kernel_rfl) rfl (congrArg (Value.int .i64) (wrap_in (by omega) (by omega))) (by kernel_rfl) ?_
    refine RW.cl (hw := by rfl) ?_
    refine ((P_rotate (0 - (pickOf far 1000)) ok hp (Lies.rot (B := ([.sl 48 1 ra M.length us])) (X := PE q r ev78 mv79 ⟨false, [], M, ct⟩) H)).mono ?_)
    clear H
    rw [show (rotate ⟨false, [], M, ct⟩ (0 - (pickOf far 1000))) = (13, ⟨false, [], M, ct⟩) from (rotate_zero hM0)]
    rintro _ _ ⟨rfl, F, ev81, mv82, le, hp, K83⟩
    replace le0 := fun b y h => le b y (le0 b y h)
    dsimp only at hp
    have H : Lies G (Abs.no) F _ (.sl 48 1 ra M.length us :: (PE q r ev81 mv82 ⟨false, [], M, ct⟩ ++ (ents us M ++ ([])))) := Lies.rot (B := PE q r ev81 mv82 ⟨false, [], M, ct⟩) (X := ([.sl 48 1 ra M.length us])) K83
    clear K83
    refine RW.val (by rfl) (by kernel_rfl) rfl (by kernel_rfl) ?_
    refine RW.val (by rfl) (by kernel_rfl) rfl (by kernel_rfl) ?_
    refine RW.valE (v' := .bool false) (by rfl) (by kernel_rfl) rfl (congrArg Value.bool (decide_eq_false (by omega))) (by kernel_rfl) ?_
    refine RW.val (by rfl) (by kernel_rfl) rfl (by kernel_rfl) ?_
    refine RW.v ?_
    refine RW.nil ?_
    refine W.c0 ?_
    refine W.skip ?_
    refine W.seq (W.region ?_)
    refine RW.v ?_
    refine RW.cl ?_
    refine ((P_ring ok hp (Lies.rot (B := [.sl 48 1 ra M.length us]) (X := PE q r ev81 mv82 ⟨false, [], M, ct⟩) H)).mono ?_)
    clear H
    rintro rb _ ⟨ws, hw, H⟩
    dsimp only at H hw
    replace H : Lies G (Abs.no) F _ (.sl 48 1 ra M.length us :: .sl 48 1 rb M.length ws :: (PE q r ev81 mv82 ⟨false, [], M, ct⟩ ++ (ents ws M ++ (ents us M ++ ([]))))) := ring_in (B := [.sl 48 1 ra M.length us]) (X := ents ws M) (P := PE q r ev81 mv82 ⟨false, [], M, ct⟩) H
    refine RW.v ?_
    refine RW.nil ?_
    refine W.rg [(7, .bool true), (15, ra), (16, rb)] fun TA => ?_
    refine W.seq ?_
    refine W.seq (W.region ?_)
    refine RW.v ?_
    refine RW.nil ?_
    refine W.rg [(7, .bool true), (15, ra), (16, rb), (17, .int .i64 0)] fun TA => ?_
    refine W.block ?_
    refine W.loop (fun mm ta σ => ∃ (i : Nat), (mm + i = M.length) ∧ Lies G Abs.no F σ (.sl 48 1 ra M.length us :: .sl 48 1 rb M.length ws :: (PE q r ev81 mv82 ⟨false, [], M, ct⟩ ++ (ents ws M ++ (ents us M ++ ([]))))) ∧ ta 7 = .bool true ∧ ta 15 = ra ∧ ta 16 = rb ∧ ta 17 = .int .i64 ((i : Nat) : Int)) M.length ?_ ?_
    ·exact ⟨0, (by omega), H, rfl, rfl, rfl, rfl⟩
    clear H
    rintro mm ta _ ⟨i, hm, H, e7, e15, e16, e17⟩
    refine W.rst [(7, .bool true), (15, ra), (16, rb), (17, .int .i64 ((i : Nat) : Int))] ⟨e7, e15, e16, e17, trivial⟩ fun TA => ?_
    clear e7 e15 e16 e17
    refine W.seq ?_
    refine W.seq (W.region ?_)
    iterate 2 refine RW.v ?_
    refine RW.len (by kernel_rfl) (by kernel_rfl) rfl rfl rfl rfl ((H.sl 0 rfl).len (by kernel_rfl)) (by kernel_rfl) ?_
    refine RW.v ?_
    refine RW.nil ?_
    refine W.rg [(7, .bool true), (15, ra), (16, rb), (17, .int .i64 ((i : Nat) : Int)), (150, .bool (decide (((i : Nat) : Int) < ((M.length : Nat) : Int))))] fun TA => ?_
    refine W.cond rfl (fun hc84 => ?_) (fun hc84 => ?_)
    ·have hc84b := hc84
     have hc84 := of_decide_eq_true hc84
     refine W.skip ?_
     refine W.seq ?_
     refine W.block ?_
     refine W.seq ?_
     refine W.drawn (by kernel_rfl) (by kernel_rfl) H.gn ?_
     have H85 := H
     refine RW.v ?_
     refine RW.len (by kernel_rfl) (by kernel_rfl) rfl rfl rfl rfl ((H85.sl 1 rfl).len (by kernel_rfl)) (by kernel_rfl) ?_
     refine RW.v ?_
     refine RW.len (by kernel_rfl) (by kernel_rfl) rfl rfl rfl rfl ((H85.sl 0 rfl).len (by kernel_rfl)) (by kernel_rfl) ?_
     refine RW.valE (v' := .bool false) (by kernel_rfl) (by kernel_rfl) rfl (congrArg Value.bool (bne_eq_false_iff_eq.2 (by rfl))) (by kernel_rfl) ?_
     refine RW.v ?_
     refine RW.val (by rfl) (by kernel_rfl) rfl (by kernel_rfl) ?_
     refine RW.val (by rfl) (by kernel_rfl) rfl (by kernel_rfl) ?_
     refine RW.idxG H85 1 rfl (by rfl) (by kernel_rfl) rfl Tryz.underlying54 (by kernel_rfl) rfl rfl ⟨by omega, by omega⟩ (by kernel_rfl) ?_
     intro b86 q87 r88 hF89 hE90
     rw [vs_at (vs := ws) (j := i) (by omega)] at hE90
     refine RW.loads 1 (by rfl) (by kernel_rfl) rfl rfl (hF89) hE90 rfl (by kernel_rfl) ?_
     refine RW.val (by rfl) (by kernel_rfl) rfl (by kernel_rfl) ?_
     refine RW.val (by rfl) (by kernel_rfl) rfl (by kernel_rfl) ?_
     refine RW.idxG H85 0 rfl (by rfl) (by kernel_rfl) rfl Tryz.underlying54 (by kernel_rfl) rfl rfl ⟨by omega, by omega⟩ (by kernel_rfl) ?_
     intro b91 q92 r93 hF94 hE95
     rw [vs_at (vs := us) (j := i) (by omega)] at hE95
     refine RW.loads 1 (by rfl) (by kernel_rfl) rfl rfl (hF94) hE95 rfl (by kernel_rfl) ?_
     refine RW.cl (hw := by rfl) ?_
     refine ((same_int (l := M.getD i []) (ents_get hw H85 (fun x hx => by simp [hx]) (by omega)) (ents_get hu H85 (fun x hx => by simp [hx]) (by omega)) (by have := (mac_in (M := M) ok.2.2.2.1 (i := i) (by omega)).2; omega) (Lies.start H85.gn H85.abs)).mono ?_)
     rintro _ _ ⟨rfl, K96⟩
     have H97 : Lies G (Abs.no) F _ (.sl 48 1 ra M.length us :: .sl 48 1 rb M.length ws :: (PE q r ev81 mv82 ⟨false, [], M, ct⟩ ++ (ents ws M ++ (ents us M ++ ([]))))) := Lies.then H85 K96
     refine RW.val (by rfl) (by kernel_rfl) rfl (by kernel_rfl) ?_
     refine RW.v ?_
     refine RW.nil ?_
     refine ⟨⟨by kernel_rfl, ⟨trivial, trivial, trivial, trivial, trivial, trivial, trivial, trivial, trivial, dyn_row (hF89) ((K96.old _ _ hF89)) ⟨fun h => Bool.noConfusion h, fun h => Bool.noConfusion h, fun h => Bool.noConfusion h, fun h => Bool.noConfusion h, fun h => Bool.noConfusion h, fun h => Bool.noConfusion h, fun h => Bool.noConfusion h, fun h => Bool.noConfusion h, fun h => Bool.noConfusion h, fun h => Bool.noConfusion h, fun h => Bool.noConfusion h, fun h => Bool.noConfusion h, fun h => Bool.noConfusion h, fun h => Bool.noConfusion h, fun _ => hF89, fun h => Bool.noConfusion h, fun h => Bool.noConfusion h, trivial⟩, trivial, trivial, trivial, dyn_row (hF94) ((K96.old _ _ hF94)) ⟨fun h => Bool.noConfusion h, fun h => Bool.noConfusion h, fun h => Bool.noConfusion h, fun h => Bool.noConfusion h, fun h => Bool.noConfusion h, fun h => Bool.noConfusion h, fun h => Bool.noConfusion h, fun h => Bool.noConfusion h, fun h => Bool.noConfusion h, fun h => Bool.noConfusion h, fun h => Bool.noConfusion h, fun h => Bool.noConfusion h, fun h => Bool.noConfusion h, fun h => Bool.noConfusion h, fun _ => hF94, fun h => Bool.noConfusion h, fun h => Bool.noConfusion h, trivial⟩, trivial, trivial, trivial, trivial⟩⟩, ?_⟩
     replace H := H97
     clear H85 H97
     refine W.c0 ?_
     refine W.skip ?_
     refine blkQ_normal ?_
     refine W.region ?_
     refine RW.v ?_
     refine RW.valE (v' := .int .i64 (((i : Nat) : Int) + 1)) (by kernel_rfl) (by kernel_rfl) rfl (congrArg (Value.int .i64) (wrap_in (by omega) (by omega))) (by kernel_rfl) ?_
     refine RW.v ?_
     refine RW.nil ?_
     exact ⟨rfl, mm - 1, by omega, i + 1, (by omega), H, rfl, rfl, rfl, rfl⟩
    ·have hc84b := hc84
     have hc84 := of_decide_eq_false hc84
     refine W.exit _ ?_
     refine seqQ_exit ?_
     refine rndQ_exit ?_
     refine blkQ_here ?_
     refine W.seq (W.region ?_)
     iterate 2 refine RW.v ?_
     refine RW.nil ?_
     refine W.ret ?_
     refine endG (by rfl) (by exact resL_tmp rfl) ?_
     exact rfl
   ·refine RW.v ?_
    refine RW.cl ?_
    refine ⟨_, _, (s_pick (G := G) (far) 1000 (by omega) (by omega) (by decide) (by decide)), ?_⟩
    refine RW.v ?_
    refine RW.nil ?_
    refine W.rg [(2, .int .i64 (pickOf far 1000)), (7, .bool true), (8, pp q), (9, .int .i64 ((many : Nat) : Int))] fun TA => ?_
    refine W.seq (W.region ?_)
    refine RW.v ?_
    refine RW.cl ?_
    refine ((P_ring ok hp (Lies.rot (B := []) (X := PE q r ev mv ⟨false, [], M, ct⟩) H)).mono ?_)
    clear H
    rintro ra _ ⟨us, hu, H⟩
    dsimp only at H hu
    replace H : Lies G (Abs.no) F _ (.sl 48 1 ra M.length us :: (PE q r ev mv ⟨false, [], M, ct⟩ ++ (ents us M ++ ([])))) := ring_in (B := []) (X := ents us M) (P := PE q r ev mv ⟨false, [], M, ct⟩) H
    refine RW.v ?_
    refine RW.nil ?_
    refine W.rg [(2, .int .i64 (pickOf far 1000)), (7, .bool true), (8, pp q), (9, .int .i64 ((many : Nat) : Int)), (15, ra)] fun TA => ?_
    refine W.seq ?_
    refine W.seq (W.region ?_)
    refine RW.v ?_
    refine RW.len (by kernel_rfl) (by kernel_rfl) rfl rfl rfl rfl ((H.sl 0 rfl).len (by kernel_rfl)) (by kernel_rfl) ?_
    refine RW.v ?_
    refine RW.vop (v := .int .i64 (min ((many : Nat) : Int) 20)) (by kernel_rfl) (by kernel_rfl) (vop_min rfl rfl rfl rfl rfl) (by kernel_rfl) ?_
    refine RW.valE (v' := .bool false) (by kernel_rfl) (by kernel_rfl) rfl (congrArg Value.bool (bne_eq_false_iff_eq.2 (by omega))) (by kernel_rfl) ?_
    refine RW.v ?_
    refine RW.val (by rfl) (by kernel_rfl) rfl (by kernel_rfl) ?_
    refine RW.val (by rfl) (by kernel_rfl) rfl (by kernel_rfl) ?_
    refine RW.cl (hw := by rfl) ?_
    refine ((P_rotate (pickOf far 1000) ok hp (Lies.rot (B := ([.sl 48 1 ra M.length us])) (X := PE q r ev mv ⟨false, [], M, ct⟩) H)).mono ?_)
    clear H
    rw [show (rotate ⟨false, [], M, ct⟩ (pickOf far 1000)) = (0, ⟨false, [], rotL (pickOf far 1000) M, ct⟩) from (rotate_pos (by first | exact hM0 | (rw [rot_len _ hM0]; exact hM0)))]
    rintro _ _ ⟨rfl, F, ev99, mv100, le, hp, K101⟩
    replace le0 := fun b y h => le b y (le0 b y h)
    dsimp only at hp
    have H : Lies G (Abs.no) F _ (.sl 48 1 ra M.length us :: (PE q r ev99 mv100 ⟨false, [], rotL (pickOf far 1000) M, ct⟩ ++ (ents us M ++ ([])))) := Lies.rot (B := PE q r ev99 mv100 ⟨false, [], rotL (pickOf far 1000) M, ct⟩) (X := ([.sl 48 1 ra M.length us])) K101
    clear K101
    have okr98 : RS.Ok ⟨false, [], rotL (pickOf far 1000) M, ct⟩ := (ok_rot ok)
    refine RW.val (by rfl) (by kernel_rfl) rfl (by kernel_rfl) ?_
    refine RW.val (by rfl) (by kernel_rfl) rfl (by kernel_rfl) ?_
    refine RW.valE (v' := .bool true) (by rfl) (by kernel_rfl) rfl (congrArg Value.bool (decide_eq_true (by omega))) (by kernel_rfl) ?_
    refine RW.val (by rfl) (by kernel_rfl) rfl (by kernel_rfl) ?_
    iterate 2 refine RW.v ?_
    refine RW.val (by rfl) (by kernel_rfl) rfl (by kernel_rfl) ?_
    refine RW.val (by rfl) (by kernel_rfl) rfl (by kernel_rfl) ?_
    refine RW.valE (v' := .int .i64 (0 - (pickOf far 1000))) (by rfl) (by kernel_rfl) rfl (congrArg (Value.int .i64) (wrap_in (by omega) (by omega))) (by kernel_rfl) ?_
    refine RW.cl (hw := by rfl) ?_
    refine ((P_rotate (0 - (pickOf far 1000)) okr98 hp (Lies.rot (B := ([.sl 48 1 ra M.length us])) (X := PE q r ev99 mv100 ⟨false, [], rotL (pickOf far 1000) M, ct⟩) H)).mono ?_)
    clear H
    rw [show (rotate ⟨false, [], rotL (pickOf far 1000) M, ct⟩ (0 - (pickOf far 1000))) = (0, ⟨false, [], rotL (0 - (pickOf far 1000)) (rotL (pickOf far 1000) M), ct⟩) from (rotate_pos (by first | exact hM0 | (rw [rot_len _ hM0]; exact hM0)))]
    rintro _ _ ⟨rfl, F, ev103, mv104, le, hp, K105⟩
    replace le0 := fun b y h => le b y (le0 b y h)
    dsimp only at hp
    have H : Lies G (Abs.no) F _ (.sl 48 1 ra M.length us :: (PE q r ev103 mv104 ⟨false, [], rotL (0 - (pickOf far 1000)) (rotL (pickOf far 1000) M), ct⟩ ++ (ents us M ++ ([])))) := Lies.rot (B := PE q r ev103 mv104 ⟨false, [], rotL (0 - (pickOf far 1000)) (rotL (pickOf far 1000) M), ct⟩) (X := ([.sl 48 1 ra M.length us])) K105
    clear K105
    have okr102 : RS.Ok ⟨false, [], rotL (0 - (pickOf far 1000)) (rotL (pickOf far 1000) M), ct⟩ := (ok_rot okr98)
    refine RW.val (by rfl) (by kernel_rfl) rfl (by kernel_rfl) ?_
    refine RW.val (by rfl) (by kernel_rfl) rfl (by kernel_rfl) ?_
    refine RW.valE (v' := .bool true) (by rfl) (by kernel_rfl) rfl (congrArg Value.bool (decide_eq_true (by omega))) (by kernel_rfl) ?_
    refine RW.val (by rfl) (by kernel_rfl) rfl (by kernel_rfl) ?_
    refine RW.v ?_
    refine RW.nil ?_
    refine W.c0 ?_
    refine W.skip ?_
    refine W.seq (W.region ?_)
    refine RW.v ?_
    have eR := rot_back (M := M) hM0 (show 0 ≤ pickOf far 1000 by omega)
    rw [eR] at H hp okr102
    refine RW.cl ?_
    refine ((P_ring okr102 hp (Lies.rot (B := [.sl 48 1 ra M.length us]) (X := PE q r ev103 mv104 ⟨false, [], M, ct⟩) H)).mono ?_)
    clear H
    rintro rb _ ⟨ws, hw, H⟩
    dsimp only at H hw
    replace H : Lies G (Abs.no) F _ (.sl 48 1 ra M.length us :: .sl 48 1 rb M.length ws :: (PE q r ev103 mv104 ⟨false, [], M, ct⟩ ++ (ents ws M ++ (ents us M ++ ([]))))) := ring_in (B := [.sl 48 1 ra M.length us]) (X := ents ws M) (P := PE q r ev103 mv104 ⟨false, [], M, ct⟩) H
    refine RW.v ?_
    refine RW.nil ?_
    refine W.rg [(7, .bool true), (15, ra), (16, rb)] fun TA => ?_
    refine W.seq ?_
    refine W.seq (W.region ?_)
    refine RW.v ?_
    refine RW.nil ?_
    refine W.rg [(7, .bool true), (15, ra), (16, rb), (17, .int .i64 0)] fun TA => ?_
    refine W.block ?_
    refine W.loop (fun mm ta σ => ∃ (i : Nat), (mm + i = M.length) ∧ Lies G Abs.no F σ (.sl 48 1 ra M.length us :: .sl 48 1 rb M.length ws :: (PE q r ev103 mv104 ⟨false, [], M, ct⟩ ++ (ents ws M ++ (ents us M ++ ([]))))) ∧ ta 7 = .bool true ∧ ta 15 = ra ∧ ta 16 = rb ∧ ta 17 = .int .i64 ((i : Nat) : Int)) M.length ?_ ?_
    ·exact ⟨0, (by omega), H, rfl, rfl, rfl, rfl⟩
    clear H
    rintro mm ta _ ⟨i, hm, H, e7, e15, e16, e17⟩
    refine W.rst [(7, .bool true), (15, ra), (16, rb), (17, .int .i64 ((i : Nat) : Int))] ⟨e7, e15, e16, e17, trivial⟩ fun TA => ?_
    clear e7 e15 e16 e17
    refine W.seq ?_
    refine W.seq (W.region ?_)
    iterate 2 refine RW.v ?_
    refine RW.len (by kernel_rfl) (by kernel_rfl) rfl rfl rfl rfl ((H.sl 0 rfl).len (by kernel_rfl)) (by kernel_rfl) ?_
    refine RW.v ?_
    refine RW.nil ?_
    refine W.rg [(7, .bool true), (15, ra), (16, rb), (17, .int .i64 ((i : Nat) : Int)), (150, .bool (decide (((i : Nat) : Int) < ((M.length : Nat) : Int))))] fun TA => ?_
    refine W.cond rfl (fun hc106 => ?_) (fun hc106 => ?_)
    ·have hc106b := hc106
     have hc106 := of_decide_eq_true hc106
     refine W.skip ?_
     refine W.seq ?_
     refine W.block ?_
     refine W.seq ?_
     refine W.drawn (by kernel_rfl) (by kernel_rfl) H.gn ?_
     have H107 := H
     refine RW.v ?_
     refine RW.len (by kernel_rfl) (by kernel_rfl) rfl rfl rfl rfl ((H107.sl 1 rfl).len (by kernel_rfl)) (by kernel_rfl) ?_
     refine RW.v ?_
     refine RW.len (by kernel_rfl) (by kernel_rfl) rfl rfl rfl rfl ((H107.sl 0 rfl).len (by kernel_rfl)) (by kernel_rfl) ?_
     refine RW.valE (v' := .bool false) (by kernel_rfl) (by kernel_rfl) rfl (congrArg Value.bool (bne_eq_false_iff_eq.2 (by rfl))) (by kernel_rfl) ?_
     refine RW.v ?_
     refine RW.val (by rfl) (by kernel_rfl) rfl (by kernel_rfl) ?_
     refine RW.val (by rfl) (by kernel_rfl) rfl (by kernel_rfl) ?_
     refine RW.idxG H107 1 rfl (by rfl) (by kernel_rfl) rfl Tryz.underlying54 (by kernel_rfl) rfl rfl ⟨by omega, by omega⟩ (by kernel_rfl) ?_
     intro b108 q109 r110 hF111 hE112
     rw [vs_at (vs := ws) (j := i) (by omega)] at hE112
     refine RW.loads 1 (by rfl) (by kernel_rfl) rfl rfl (hF111) hE112 rfl (by kernel_rfl) ?_
     refine RW.val (by rfl) (by kernel_rfl) rfl (by kernel_rfl) ?_
     refine RW.val (by rfl) (by kernel_rfl) rfl (by kernel_rfl) ?_
     refine RW.idxG H107 0 rfl (by rfl) (by kernel_rfl) rfl Tryz.underlying54 (by kernel_rfl) rfl rfl ⟨by omega, by omega⟩ (by kernel_rfl) ?_
     intro b113 q114 r115 hF116 hE117
     rw [vs_at (vs := us) (j := i) (by omega)] at hE117
     refine RW.loads 1 (by rfl) (by kernel_rfl) rfl rfl (hF116) hE117 rfl (by kernel_rfl) ?_
     refine RW.cl (hw := by rfl) ?_
     refine ((same_int (l := M.getD i []) (ents_get hw H107 (fun x hx => by simp [hx]) (by omega)) (ents_get hu H107 (fun x hx => by simp [hx]) (by omega)) (by have := (mac_in (M := M) ok.2.2.2.1 (i := i) (by omega)).2; omega) (Lies.start H107.gn H107.abs)).mono ?_)
     rintro _ _ ⟨rfl, K118⟩
     have H119 : Lies G (Abs.no) F _ (.sl 48 1 ra M.length us :: .sl 48 1 rb M.length ws :: (PE q r ev103 mv104 ⟨false, [], M, ct⟩ ++ (ents ws M ++ (ents us M ++ ([]))))) := Lies.then H107 K118
     refine RW.val (by rfl) (by kernel_rfl) rfl (by kernel_rfl) ?_
     refine RW.v ?_
     refine RW.nil ?_
     refine ⟨⟨by kernel_rfl, ⟨trivial, trivial, trivial, trivial, trivial, trivial, trivial, trivial, trivial, dyn_row (hF111) ((K118.old _ _ hF111)) ⟨fun h => Bool.noConfusion h, fun h => Bool.noConfusion h, fun h => Bool.noConfusion h, fun h => Bool.noConfusion h, fun h => Bool.noConfusion h, fun h => Bool.noConfusion h, fun h => Bool.noConfusion h, fun h => Bool.noConfusion h, fun h => Bool.noConfusion h, fun h => Bool.noConfusion h, fun h => Bool.noConfusion h, fun h => Bool.noConfusion h, fun h => Bool.noConfusion h, fun h => Bool.noConfusion h, fun _ => hF111, fun h => Bool.noConfusion h, fun h => Bool.noConfusion h, trivial⟩, trivial, trivial, trivial, dyn_row (hF116) ((K118.old _ _ hF116)) ⟨fun h => Bool.noConfusion h, fun h => Bool.noConfusion h, fun h => Bool.noConfusion h, fun h => Bool.noConfusion h, fun h => Bool.noConfusion h, fun h => Bool.noConfusion h, fun h => Bool.noConfusion h, fun h => Bool.noConfusion h, fun h => Bool.noConfusion h, fun h => Bool.noConfusion h, fun h => Bool.noConfusion h, fun h => Bool.noConfusion h, fun h => Bool.noConfusion h, fun h => Bool.noConfusion h, fun _ => hF116, fun h => Bool.noConfusion h, fun h => Bool.noConfusion h, trivial⟩, trivial, trivial, trivial, trivial⟩⟩, ?_⟩
     replace H := H119
     clear H107 H119
     refine W.c0 ?_
     refine W.skip ?_
     refine blkQ_normal ?_
     refine W.region ?_
     refine RW.v ?_
     refine RW.valE (v' := .int .i64 (((i : Nat) : Int) + 1)) (by kernel_rfl) (by kernel_rfl) rfl (congrArg (Value.int .i64) (wrap_in (by omega) (by omega))) (by kernel_rfl) ?_
     refine RW.v ?_
     refine RW.nil ?_
     exact ⟨rfl, mm - 1, by omega, i + 1, (by omega), H, rfl, rfl, rfl, rfl⟩
    ·have hc106b := hc106
     have hc106 := of_decide_eq_false hc106
     refine W.exit _ ?_
     refine seqQ_exit ?_
     refine rndQ_exit ?_
     refine blkQ_here ?_
     refine W.seq (W.region ?_)
     iterate 2 refine RW.v ?_
     refine RW.nil ?_
     refine W.ret ?_
     refine endG (by rfl) (by exact resL_tmp rfl) ?_
     exact rfl
end Go.Proofs.YthemeeiedlbhkaaGreatDoor
