/-
 Frozen slices of which the room is known, their parts; lists of frozen slices. Over any program. Conditions: none.
 Copies of slices of numbers, and their comparison. Conditions: none.
 More rules of a walk: make of a slice, copy, append of made elements. Over any program. Conditions: none.
 slices.Concat of two, slices.Repeat. Conditions: none.
-/
import Derived.Test.YthemeeiedlbhkaaGreatDoorD1
import Derived.Test.YthemeeiedlbhkaaGreatDoorS4
namespace Go.Proofs.YthemeeiedlbhkaaGreatDoor
set_option maxRecDepth 100000
inductive SlK (F : Nat → Option Blk2) (s : Nat) : Value → Nat → List Value → Prop
 | nil : SlK F s (.slice none 0 0) 0 []
 | some {b p n c : Nat} {sp : Option Nat} {r : Row} {xs : List Value} (hr : F b = .some (.row r)) (hx : xs.length = n * s) (hc : (r.cs.drop p).take (n * s) = xs) (hle : n ≤ c) (hsp : sp = none ∨ sp = .some s) : SlK F s (.slice (.some ⟨b, p, sp⟩) n c) n xs
section
variable {F F' : Nat → Option Blk2} {s n : Nat} {v : Value} {xs : List Value}
theorem SlK.slf (h : SlK F s v n xs) : SlF F s v n xs := by
 cases h with
 | nil => exact .nil _ rfl
 | some hr hx hc _ _ => exact .some hr hx hc
theorem SlK.le (h : SlK F s v n xs) (k : Le F F') : SlK F' s v n xs := by
 cases h with
 | nil => exact .nil
 | some hr hx hc h1 h2 => exact .some (k _ _ hr) hx hc h1 h2
theorem SlK.length (h : SlK F s v n xs) : xs.length = n * s := h.slf.length
variable {P : Program} {t e : TypeId} {i : Nat}
theorem slk_cut (h : SlK F s v n xs) (ht : uT P t = some (.slice e)) (hz : sizeT P e = some s) (hi : i ≤ n) :
  ∃ v', sliceF P t v none (some (.int .i64 ((i : Nat) : Int))) none = some v' ∧ SlK F s v' i (xs.take (i * s)) := by
 cases h with
 | nil =>
  obtain rfl : i = 0 := by omega
  refine ⟨.slice none 0 0, by simp only [sliceF, ht, hz, boundF]; rfl, ?_⟩
  rw [List.take_nil]
  exact .nil
 | @some b p _ c sp r _ hr hx hc hle hsp =>
  have hb : boundF (some (.int .i64 ((i : Nat) : Int))) n c = some i := by
   simp only [boundF]
   rw [if_pos (by omega), Int.toNat_natCast]
  have hm : i * s ≤ n * s := Nat.mul_le_mul_right _ hi
  have key : SlK F s (.slice (some ⟨b, p, sp⟩) i c) i (xs.take (i * s)) := .some hr (by rw [List.length_take]; omega) (by rw [← hc, List.take_take, Nat.min_eq_left hm]) (by omega) hsp
  refine ⟨_, ?_, key⟩
  simp only [sliceF, ht, hz]
  rw [hb]
  simp only []
  rw [show boundF none 0 i = some 0 from rfl]
  rcases hsp with rfl | rfl
  ·simp
  ·simp only []
   rw [if_pos ⟨trivial, by omega⟩]
   simp
theorem slk_rest (h : SlK F s v n xs) (ht : uT P t = some (.slice e)) (hz : sizeT P e = some s) (hi : i ≤ n) :
  ∃ v', sliceF P t v (some (.int .i64 ((i : Nat) : Int))) none none = some v' ∧ SlK F s v' (n - i) (xs.drop (i * s)) := by
 cases h with
 | nil =>
  obtain rfl : i = 0 := by omega
  refine ⟨.slice none 0 0, by simp only [sliceF, ht, hz, boundF]; rfl, ?_⟩
  rw [List.drop_nil]
  exact .nil
 | @some b p _ c sp r _ hr hx hc hle hsp =>
  have hb : boundF (some (.int .i64 ((i : Nat) : Int))) 0 n = some i := by
   simp only [boundF]
   rw [if_pos (by omega), Int.toNat_natCast]
  have hm : i * s ≤ n * s := Nat.mul_le_mul_right _ hi
  have hm2 : (n - i) * s = n * s - i * s := Nat.sub_mul ..
  have key : ∀ q, (q = p ∧ c = i ∨ q = p + i * s) → SlK F s (.slice (some ⟨b, q, sp⟩) (n - i) (c - i)) (n - i) (xs.drop (i * s)) := by
   rintro q (⟨rfl, hci⟩ | rfl)
   ·obtain rfl : n = i := by omega
    rw [Nat.sub_self]
    exact .some hr (by rw [List.length_drop, hx]; omega) (by rw [Nat.zero_mul, List.take_zero, List.drop_of_length_le (by omega)]) (by omega) hsp
   ·exact .some hr (by rw [List.length_drop, hx]; omega) (by rw [← hc, List.drop_take, hm2, List.drop_drop]) (by omega) hsp
  by_cases hci : c = i
  ·refine ⟨_, ?_, key p (.inl ⟨rfl, hci⟩)⟩
   simp only [sliceF, ht, hz]
   rw [show boundF none n c = some n from rfl]
   simp only []
   rw [hb]
   rcases hsp with rfl | rfl
   ·simp [hci]
   ·simp only []
    rw [if_pos ⟨trivial, hle⟩]
    simp [hci]
  ·refine ⟨_, ?_, key (p + i * s) (.inr rfl)⟩
   simp only [sliceF, ht, hz]
   rw [show boundF none n c = some n from rfl]
   simp only []
   rw [hb]
   rcases hsp with rfl | rfl
   ·simp [hci]
   ·simp only []
    rw [if_pos ⟨trivial, hle⟩]
    simp [hci]
theorem slk_cut3 (h : SlK F s v n xs) (ht : uT P t = some (.slice e)) (hz : sizeT P e = some s) (h0 : 0 < n) (hi0 : 0 < i) (hi : i ≤ n) :
  ∃ v', slice3F P t v none (.int .i64 ((i : Nat) : Int)) (.int .i64 ((i : Nat) : Int)) = some v' ∧ SlK F s v' i (xs.take (i * s)) := by
 cases h with
 | nil => omega
 | @some b p _ c sp r _ hr hx hc hle hsp =>
  have hm : i * s ≤ n * s := Nat.mul_le_mul_right _ hi
  have key : SlK F s (.slice (some ⟨b, p, none⟩) i i) i (xs.take (i * s)) := .some hr (by rw [List.length_take]; omega) (by rw [← hc, List.take_take, Nat.min_eq_left hm]) (Nat.le_refl _) (.inl rfl)
  refine ⟨_, ?_, key⟩
  unfold slice3F
  rw [ht]
  show (match sizeT P e with
   | some sz => if n ≠ 0 ∧ 0 ≤ i ∧ i ≤ i ∧ i ≤ c then some (Value.slice (some (if i = 0 then ⟨b, p, none⟩ else ⟨b, p + 0 * sz, none⟩)) (i - 0) (i - 0)) else none
   | none => none) = _
  rw [hz]
  show (if n ≠ 0 ∧ 0 ≤ i ∧ i ≤ i ∧ i ≤ c then some _ else none) = _
  rw [if_pos ⟨by omega, Nat.zero_le _, Nat.le_refl _, by omega⟩, if_neg (by omega)]
  simp
end
section
variable {G : Nat} {A : Abs} {F F' : Nat → Option Blk2} {σ : Mem} {L : List Ent}
theorem Lies.freezeK (H : Lies G A F σ L) (k : Nat) {e s n : Nat} {v : Value} {xs : List Value} (h : lookL L k = some (.sl e s v n xs)) : ∃ F', Le F F' ∧ SlK F' s v n xs ∧ Lies G A F' σ (delL L k) := by
 have hg : GRow G σ e s v n xs := H.ok.mem _ (lookL_mem h)
 obtain ⟨F', k1, k2, k3⟩ := H.freezeSl k h
 refine ⟨F', k1, ?_, k3⟩
 cases hg with
 | nil => exact .nil
 | row _ _ _ _ hl _ =>
  cases k2 with
  | some hr hx hc => exact .some hr hx hc hl (.inr rfl)
theorem Lies.freezeR (H : Lies G A F σ L) (k : Nat) {b n s : Nat} {cs : List Value} {t : TypeId} {g : Bool} (h : lookL L k = some (.at_ b (.row ⟨cs, t, g⟩))) (hn : cs.length = n * s) : ∃ F', Le F F' ∧ SlK F' s (.slice (some ⟨b, 0, none⟩) n n) n cs ∧ Lies G A F' σ (delL L k) := by
 obtain ⟨F', k1, k2, k3⟩ := H.freeze k h
 exact ⟨F', k1, .some k2 hn (by rw [List.drop_zero]; exact List.take_of_length_le (by rw [hn]; exact Nat.le_refl _)) (Nat.le_refl _) (.inl rfl), k3⟩
def AllR (F : Nat → Option Blk2) : List Value → List (List Int) → Prop
 | [], [] => True
 | v :: vs, l :: M => SlK F 1 v l.length (l.map (Value.int .i64)) ∧ AllR F vs M
 | _, _ => False
theorem AllR.le (k : Le F F') : ∀ {vs : List Value} {M : List (List Int)}, AllR F vs M → AllR F' vs M
 | [], [], _ => trivial
 | _ :: _, _ :: _, h => ⟨h.1.le k, AllR.le k h.2⟩
theorem AllR.len : ∀ {vs : List Value} {M : List (List Int)}, AllR F vs M → vs.length = M.length
 | [], [], _ => rfl
 | _ :: _, _ :: _, h => congrArg (· + 1) (AllR.len h.2)
theorem AllR.app : ∀ {vs ws : List Value} {M N : List (List Int)}, AllR F vs M → AllR F ws N → AllR F (vs ++ ws) (M ++ N)
 | [], _, [], _, _, k => k
 | _ :: _, _, _ :: _, _, h, k => ⟨h.1, AllR.app h.2 k⟩
theorem AllR.take : ∀ {vs : List Value} {M : List (List Int)} (i : Nat), AllR F vs M → AllR F (vs.take i) (M.take i)
 | [], [], i, _ => by rw [List.take_nil, List.take_nil]; trivial
 | _ :: _, _ :: _, 0, _ => trivial
 | _ :: _, _ :: _, i + 1, h => ⟨h.1, AllR.take i h.2⟩
theorem AllR.drop : ∀ {vs : List Value} {M : List (List Int)} (i : Nat), AllR F vs M → AllR F (vs.drop i) (M.drop i)
 | [], [], i, _ => by rw [List.drop_nil, List.drop_nil]; trivial
 | _ :: _, _ :: _, 0, h => h
 | _ :: _, _ :: _, i + 1, h => AllR.drop i h.2
theorem AllR.get : ∀ {vs : List Value} {M : List (List Int)} {i : Nat}, AllR F vs M → i < M.length → SlK F 1 (vs.getD i undef) (M.getD i []).length ((M.getD i []).map (Value.int .i64))
 | [], [], i, _, hi => absurd hi (Nat.not_lt_zero _)
 | _ :: _, _ :: _, 0, h, _ => h.1
 | _ :: _, _ :: _, i + 1, h, hi => AllR.get (i := i) h.2 (by simpa using hi)
theorem AllR.ones : ∀ {vs : List Value} {M : List (List Int)}, AllR F vs M → vs.all (·.oneCell') = true
 | [], [], _ => rfl
 | v :: vs, _ :: _, h => by
  have := slf_all h.1.slf
  rw [List.all_cons, List.all_nil, Bool.and_true] at this
  rw [List.all_cons, AllR.ones h.2, Bool.and_true, this]
theorem vs_at {vs : List Value} {j : Nat} (hj : j < vs.length) : (vs.drop (((j : Nat) : Int).toNat * 1)).take 1 = [vs.getD j undef] := by
 rw [Int.toNat_natCast, Nat.mul_one, List.drop_eq_getElem_cons hj, List.getD_eq_getElem?_getD, List.getElem?_eq_getElem hj]
 rfl
def MacF (F : Nat → Option Blk2) (v : Value) (M : List (List Int)) : Prop := ∃ vs : List Value, SlK F 1 v M.length vs ∧ AllR F vs M
theorem MacF.le {v : Value} {M : List (List Int)} (h : MacF F v M) (k : Le F F') : MacF F' v M := by
 obtain ⟨vs, h1, h2⟩ := h
 exact ⟨vs, h1.le k, h2.le k⟩
end
end Go.Proofs.YthemeeiedlbhkaaGreatDoor
namespace Go.Proofs.YthemeeiedlbhkaaGreatDoor
set_option maxRecDepth 100000
theorem ints_one (l : List Int) : (l.map (Value.int .i64)).all (·.oneCell') = true := by
 rw [List.all_map, List.all_eq_true]
 intro x _
 rfl
section
variable {G : Nat} {A : Abs} {σ : Mem} {F : Nat → Option Blk2} {L : List Ent}
set_option maxHeartbeats 2000000 in
theorem clone_pos {b p c : Nat} {SP : Option Nat} {n : Nat} {ys : List Value} (hs : SlF F 1 (.slice (some ⟨b, p, SP⟩) n c) n ys) (hn0 : 0 < n) (hn : n ≤ 1000000) (hone : ys.all (·.oneCell') = true) (H : Lies G A F σ L) : WC G Tryz.prog 43 #[.slice (some ⟨b, p, SP⟩) n c] σ fun r σ' => Lies G A F σ' (.sl 3 1 r n ys :: L) := by
 refine WC.enter (fn := Tryz.f43) Tryz.func43 rfl ?_
 refine W.rg [(0, .slice (some ⟨b, p, SP⟩) n c)] fun TA => ?_
 refine W.seq (W.region ?_)
 refine RW.v ?_
 refine RW.nil ?_
 refine W.rg [(0, .slice (some ⟨b, p, SP⟩) n c)] fun TA => ?_
 refine W.seq ?_
 refine W.seq (W.region ?_)
 iterate 2 refine RW.v ?_
 refine RW.nil ?_
 refine W.c0 ?_
 refine W.skip ?_
 refine W.seq (W.region ?_)
 refine RW.mkL H (x := .row ⟨[], 3, false⟩) (fm := fun b => .slice (some ⟨b, 0, none⟩) 0 0) (by kernel_rfl) (by kernel_rfl) (by kernel_rfl) (by kernel_rfl) ?_
 clear H; intro _ b1 _ H
 refine RW.v ?_
 replace H := H.nilSl 3 1
 refine RW.appFD H 0 (e2 := 3) hs (by kernel_rfl) (by kernel_rfl) rfl rfl rfl rfl rfl rfl rfl (.inr ⟨hn0, rfl, _, _, _, rfl, H.get 1 rfl⟩) (by kernel_rfl) (by kernel_rfl) (by kernel_rfl) (by decide) hone (by omega) (by kernel_rfl) ?_
 clear H; intro _ v2 H
 dsimp only [setL, delL] at H
 refine RW.v ?_
 refine RW.nil ?_
 replace H := (H.del 1)
 dsimp only [setL, delL] at H
 refine W.ret ?_
 refine endG (by rfl) (by exact resL_tmp rfl) ?_
 have K := H
 rw [Nat.zero_add, List.nil_append] at K
 exact K
theorem cloneK {xv : Value} {n : Nat} {ys : List Value} (hs : SlK F 1 xv n ys) (hn0 : 0 < n) (hn : n ≤ 1000000) (hone : ys.all (·.oneCell') = true) (H : Lies G A F σ L) : WC G Tryz.prog 43 #[xv] σ fun r σ' => Lies G A F σ' (.sl 3 1 r n ys :: L) := by
 cases hs with
 | nil => exact absurd hn0 (Nat.lt_irrefl _)
 | some hr hx hc h1 h2 => exact clone_pos (.some hr hx hc) hn0 hn hone H
set_option maxHeartbeats 4000000 in
theorem same_int {v1 v2 : Value} {l : List Int} (h1 : SlF F 1 v1 l.length (l.map (Value.int .i64))) (h2 : SlF F 1 v2 l.length (l.map (Value.int .i64))) (hl : l.length ≤ 1000000) (H : Lies G A F σ L) : WC G Tryz.prog 24 #[v1, v2] σ fun r σ' => r = .bool true ∧ Lies G A F σ' L := by
 refine WC.enter (fn := Tryz.f24) Tryz.func24 rfl ?_
 refine W.rg [(0, v1), (1, v2)] fun TA => ?_
 refine W.seq (W.region ?_)
 refine RW.v ?_
 refine RW.nil ?_
 refine W.rg [(0, v1), (1, v2)] fun TA => ?_
 refine W.seq ?_
 refine W.seq (W.region ?_)
 refine RW.v ?_
 refine RW.len (by kernel_rfl) (by kernel_rfl) rfl rfl rfl rfl (h1.len (e := 3) (by kernel_rfl)) (by kernel_rfl) ?_
 refine RW.v ?_
 refine RW.len (by kernel_rfl) (by kernel_rfl) rfl rfl rfl rfl (h2.len (e := 3) (by kernel_rfl)) (by kernel_rfl) ?_
 refine RW.valE (v' := .bool false) (by kernel_rfl) (by kernel_rfl) rfl (congrArg Value.bool (bne_eq_false_iff_eq.2 (by rfl))) (by kernel_rfl) ?_
 refine RW.nil ?_
 refine W.c0 ?_
 refine W.skip ?_
 refine W.seq ?_
 refine W.seq (W.region ?_)
 refine RW.v ?_
 refine RW.nil ?_
 refine W.rg [(0, v1), (1, v2), (5, .int .i64 0)] fun TA => ?_
 refine W.block ?_
 refine W.loop (fun mm ta σ => ∃ (i : Nat), (mm + i = l.length) ∧ Lies G A F σ ((L)) ∧ ta 0 = v1 ∧ ta 1 = v2 ∧ ta 5 = .int .i64 ((i : Nat) : Int)) l.length ?_ ?_
 ·exact ⟨0, (by omega), H, rfl, rfl, rfl⟩
 clear H
 rintro mm ta _ ⟨i, hm, H, e0, e1, e5⟩
 refine W.rst [(0, v1), (1, v2), (5, .int .i64 ((i : Nat) : Int))] ⟨e0, e1, e5, trivial⟩ fun TA => ?_
 clear e0 e1 e5
 refine W.seq ?_
 refine W.seq (W.region ?_)
 iterate 2 refine RW.v ?_
 refine RW.len (by kernel_rfl) (by kernel_rfl) rfl rfl rfl rfl (h1.len (e := 3) (by kernel_rfl)) (by kernel_rfl) ?_
 refine RW.v ?_
 refine RW.nil ?_
 refine W.rg [(0, v1), (1, v2), (5, .int .i64 ((i : Nat) : Int)), (14, .bool (decide (((i : Nat) : Int) < (l.length : Int))))] fun TA => ?_
 refine W.cond rfl (fun hc1 => ?_) (fun hc1 => ?_)
 ·have hc1b := hc1
  have hc1 := of_decide_eq_true hc1
  refine W.skip ?_
  refine W.seq ?_
  refine W.block ?_
  refine W.seq ?_
  refine W.drawn (by kernel_rfl) (by kernel_rfl) H.gn ?_
  have H2 := H
  iterate 2 refine RW.v ?_
  refine RW.idxF h1 (by kernel_rfl) (by kernel_rfl) rfl Tryz.underlying48 (by kernel_rfl) rfl rfl ⟨by omega, by omega⟩ (by kernel_rfl) ?_
  intro b3 q4 r5 hF6 hE7
  rw [ints_at (l := l) (j := i) (by omega)] at hE7
  refine RW.loads 1 (by kernel_rfl) (by kernel_rfl) rfl rfl (H2.old _ _ hF6) hE7 rfl (by kernel_rfl) ?_
  iterate 2 refine RW.v ?_
  refine RW.idxF h2 (by kernel_rfl) (by kernel_rfl) rfl Tryz.underlying48 (by kernel_rfl) rfl rfl ⟨by omega, by omega⟩ (by kernel_rfl) ?_
  intro b8 q9 r10 hF11 hE12
  rw [ints_at (l := l) (j := i) (by omega)] at hE12
  refine RW.loads 1 (by kernel_rfl) (by kernel_rfl) rfl rfl (H2.old _ _ hF11) hE12 rfl (by kernel_rfl) ?_
  refine RW.valE (v' := .bool false) (by kernel_rfl) (by kernel_rfl) rfl (congrArg Value.bool (bne_eq_false_iff_eq.2 (by rfl))) (by kernel_rfl) ?_
  refine RW.nil ?_
  refine ⟨⟨by kernel_rfl, ⟨trivial, trivial, trivial, dyn_row (H2.old _ _ hF6) (H2.old _ _ hF6) ⟨fun h => Bool.noConfusion h, fun h => Bool.noConfusion h, fun h => Bool.noConfusion h, fun h => Bool.noConfusion h, fun h => Bool.noConfusion h, fun h => Bool.noConfusion h, fun h => Bool.noConfusion h, fun h => Bool.noConfusion h, fun h => Bool.noConfusion h, trivial⟩, trivial, trivial, trivial, dyn_row (H2.old _ _ hF11) (H2.old _ _ hF11) ⟨fun h => Bool.noConfusion h, fun h => Bool.noConfusion h, fun h => Bool.noConfusion h, fun h => Bool.noConfusion h, fun h => Bool.noConfusion h, fun h => Bool.noConfusion h, fun h => Bool.noConfusion h, fun h => Bool.noConfusion h, fun h => Bool.noConfusion h, trivial⟩, trivial, trivial⟩⟩, ?_⟩
  replace H := H2
  clear H2
  refine W.c0 ?_
  refine W.skip ?_
  refine blkQ_normal ?_
  refine W.region ?_
  refine RW.v ?_
  refine RW.valE (v' := .int .i64 (((i : Nat) : Int) + 1)) (by kernel_rfl) (by kernel_rfl) rfl (congrArg (Value.int .i64) (wrap_in (by omega) (by omega))) (by kernel_rfl) ?_
  refine RW.v ?_
  refine RW.nil ?_
  exact ⟨rfl, mm - 1, by omega, i + 1, (by omega), H, rfl, rfl, rfl⟩
 ·have hc1b := hc1
  have hc1 := of_decide_eq_false hc1
  refine W.exit _ ?_
  refine seqQ_exit ?_
  refine rndQ_exit ?_
  refine blkQ_here ?_
  refine W.seq (W.region ?_)
  refine RW.v ?_
  refine RW.nil ?_
  refine W.ret ?_
  refine endG (by rfl) (by exact resL_tmp rfl) ?_
  exact ⟨rfl, H⟩
end
end Go.Proofs.YthemeeiedlbhkaaGreatDoor
namespace Go.Proofs.YthemeeiedlbhkaaGreatDoor
set_option maxRecDepth 100000
theorem wrap_u {n : Int} (h1 : 0 ≤ n) (h2 : n ≤ 18446744073709551615) : IntKind.u64.wrap n = n := by
 simp [IntKind.wrap, IntKind.bits, IntKind.signed]
 omega
theorem zerosN_ones {l : List Value} (h : l.all (·.oneCell') = true) : ∀ n, (zerosN l n).all (·.oneCell') = true
 | 0 => rfl
 | n + 1 => by
  rw [show zerosN l (n + 1) = l ++ zerosN l n from rfl, List.all_append, h, zerosN_ones h n]
  rfl
section
variable {P : Program} {G nt : Nat} {ops : Array Oper} {l : List Oper} {o : Oper} {ta : Nat → Value} {σ : Mem} {rs : List (Rec × Mem)} {A : Abs} {F : Nat → Option Blk2} {L : List Ent} {K : List (Rec × Mem) → (Nat → Value) → Mem → Prop}
theorem RW.appI (H : Lies G A F σ L) (k : Nat) {c : Call} {s_ x_ : Operand} {t u e s n l0 : Nat} {ik ik2 : IntKind} {v z : Value} {xs : List Value} (hw : wantedT ops ta o = true) (hk : opndOk G o = true) (ho : o.op = .call c) (hc : c.callee = .builtin .append) (ha : c.args = #[s_, x_]) (ht : c.argTypes = #[t, u]) (hsv : oper2 ta s_ = v) (hxv : oper2 ta x_ = .int ik2 ((n : Nat) : Int))
  (hl : lookL L k = some (.sl e s v l0 xs)) (htt : uT P t = some (.slice e)) (huu : uT P u = some (.int ik)) (hi : infoB P e s 64 = true) (hzt : zeroT P e = some z) (hz1 : closedV 2 z = true) (hz3 : z.cells.toList.all (·.oneCell') = true) (hs0 : 0 < s) (hn : 0 < n) (hb : l0 + n ≤ 1000000) (hd : dstOk nt o.dst = true)
  (h : ∀ σ' v', Lies G A F σ' (setL L k (.sl e s v' (l0 + n) (xs ++ zerosN z.cells.toList n))) → RW G P nt ops l (putO ta o.dst v') σ' ((.eff v', σ) :: rs) K) : RW G P nt ops (o :: l) ta σ rs K := by
 obtain ⟨i, z', h1, h2, h3, h4, h5⟩ := infoB_ok hi
 have hz : z' = z := by
  unfold zeroT at hzt
  rw [h1] at hzt
  exact Option.some.inj (h2.symm.trans hzt)
 subst hz
 have hg := H.sl k hl
 have hsrc : srcG (.int ik) i z' σ (.int ik2 ((n : Nat) : Int)) = some (n, zerosN z'.cells.toList n) := by
  show (if n ≤ 1000000000 ∧ n * i.bytes ≤ 1000000000 ∧ closedV 2 z' = true ∧ z'.cells.size = i.size then some (n, zerosN z'.cells.toList n) else none) = _
  have : n * i.bytes ≤ 1000000 * 64 := Nat.mul_le_mul (by omega) h5
  exact if_pos ⟨by omega, by omega, hz1, h3⟩
 have hmul : (l0 + n) * i.bytes ≤ 1000000 * 64 := Nat.mul_le_mul hb h5
 obtain ⟨v', cmd, k1, k2, k3, k4, k5, k6⟩ := grow_append (P := P) hg H.gn htt huu h1 h2 h3 h4 hs0 hsrc hn (zerosN_ones hz3 n) ⟨by omega, by omega⟩
 rw [← hsv, ← hxv] at k1
 refine RW.append hw hk ho hc ha ht k1 hd (h _ _ (H.grown k hl k2 k3 k4 k5 fun b hb => ?_))
 rcases k6 with k6 | k6
 ·exact .inl (k6 ▸ hb)
 ·rw [k6] at hb
  cases hb
  exact .inr (Nat.le_refl _)
theorem make_cells {z : Value} (hz : z.cells.toList = [z]) (hz2 : z.cells.size = 1) (n : Nat) : (if n * 1 = 0 then [] else (zerosF z.cells (n * 1)).toList) = List.replicate n z := by
 have hzc : z.cells = #[z] := Array.ext' hz
 split
 ·obtain rfl : n = 0 := by omega
  rfl
 ·unfold zerosF
  apply List.ext_getElem
  ·simp
  ·intro i h1 h2
   simp [hzc, Nat.mod_one]
theorem RW.mkS (H : Lies G A F σ L) {t e : TypeId} {x y : Operand} {k1 k2 : IntKind} {n : Nat} {z : Value} (hw : wantedT ops ta o = true) (hk : opndOk G o = true) (ho : o.op = .makeSlice t x y) (hx : oper2 ta x = .int k1 ((n : Nat) : Int)) (hy : oper2 ta y = .int k2 ((n : Nat) : Int)) (hu : uT P t = some (.slice e)) (hi : infoB P e 1 64 = true) (hzt : zeroT P e = some z) (hz1 : closedV 2 z = true) (hz2 : z.cells.size = 1) (hz3 : z.cells.toList = [z]) (hn : n ≤ 1000000) (hd : dstOk nt o.dst = true)
  (hst : stepOp G P σ o (oper2 ta) = (match makeSliceF P t (oper2 ta x) (oper2 ta y) with | some (e, cs, l, c) => some (.make (.row ⟨cs, e, false⟩) fun b => .slice (some ⟨b, 0, none⟩) l c) | none => none))
  (h : ∀ σ' b, Lies G A F σ' (.at_ b (.row ⟨List.replicate n z, e, false⟩) :: L) → RW G P nt ops l (putO ta o.dst (.slice (some ⟨b, 0, none⟩) n n)) σ' ((.make (.row ⟨List.replicate n z, e, false⟩) fun b => .slice (some ⟨b, 0, none⟩) n n, σ) :: rs) K) : RW G P nt ops (o :: l) ta σ rs K := by
 obtain ⟨i, z', h1, h2, h3, h4, h5⟩ := infoB_ok hi
 have hm : n * i.bytes ≤ 1000000 * 64 := Nat.mul_le_mul hn h5
 have e1 : makeSliceF P t (oper2 ta x) (oper2 ta y) = some (e, List.replicate n z, n, n) := by
  unfold makeSliceF
  rw [hu, hx, hy]
  simp only [h1, hzt]
  rw [if_pos ⟨by omega, by omega, by omega, by
   have : (i.bytes : Int) * ((n : Nat) : Int) = ((n * i.bytes : Nat) : Int) := by push_cast; exact Int.mul_comm _ _
   rw [this]; omega, hz1, by omega⟩, Int.toNat_natCast, h4, make_cells hz3 hz2]
 rw [e1] at hst
 exact RW.make hw hk hst hd (h _ _ (H.push _))
theorem RW.cpy (H : Lies G A F σ L) (k : Nat) {c : Call} {d_ x_ : Operand} {t u e s l0 cp b p n q : Nat} {sp : Option Nat} {r : Row} {xv : Value} {xs cs' : List Value} (hw : wantedT ops ta o = true) (hk : opndOk G o = true) (ho : o.op = .call c) (hc : c.callee = .builtin .copy) (ha : c.args = #[d_, x_]) (ht : c.argTypes = #[t, u]) (hdv : oper2 ta d_ = .slice (some ⟨b, p, sp⟩) l0 cp) (hxv : oper2 ta x_ = xv)
  (hl : lookL L k = some (.at_ b (.row r))) (htt : uT P t = some (.slice e)) (hsz : sizeT P e = some s) (hsrc : srcF σ s xv = some (n, xs)) (hq : Nat.min n l0 = q) (hm : 0 < q) (hp : p + (xs.take (q * s)).length ≤ r.cs.length) (hone : xs.all (·.oneCell') = true) (he : overL r.cs p (xs.take (q * s)) = cs') (hd : dstOk nt o.dst = true)
  (h : ∀ σ', Lies G A F σ' (setL L k (.at_ b (.row ⟨cs', r.t, r.g⟩))) → RW G P nt ops l (putO ta o.dst (.int .i64 ((q : Nat) : Int))) σ' ((.eff (.int .i64 ((q : Nat) : Int)), σ) :: rs) K) : RW G P nt ops (o :: l) ta σ rs K := by
 subst hq
 have hl0 : l0 ≠ 0 := fun e0 => by rw [e0, show Nat.min n 0 = 0 from Nat.min_zero n] at hm; exact Nat.lt_irrefl _ hm
 have e1 : copyF G P σ t (oper2 ta d_) (oper2 ta x_) = some (.int .i64 ((Nat.min n l0 : Nat) : Int), .put b (.row ⟨cs', r.t, r.g⟩)) := by
  unfold copyF
  rw [htt, hdv, hxv]
  simp only [hsz, hsrc, H.get k hl]
  rw [if_neg (by omega), if_pos ⟨H.low k hl, hl0, hp, hone⟩, he]
 exact RW.eff hw hk (eop_copy ho hc ha ht e1) hd (h _ (H.put k _ hl))
theorem gr_forms {e s n : Nat} {v : Value} {xs : List Value} (h : GRow G σ e s v n xs) : v = .slice none 0 0 ∨ ∃ q m c, v = .slice (some ⟨q, 0, some s⟩) m c := by
 cases h with
 | nil => exact .inl rfl
 | row => exact .inr ⟨_, _, _, rfl⟩
theorem slice_from {t e b m N : Nat} (hm : m < N) (ht : uT P t = some (.slice e)) (hz : sizeT P e = some 1) : sliceF P t (.slice (some ⟨b, 0, none⟩) N N) (some (.int .i64 ((m : Nat) : Int))) none none = some (.slice (some ⟨b, m, none⟩) (N - m) (N - m)) := by
 have hb : boundF (some (.int .i64 ((m : Nat) : Int))) 0 N = some m := by
  simp only [boundF]
  rw [if_pos (by omega), Int.toNat_natCast]
 simp only [sliceF, ht, hz]
 rw [show boundF none N N = some N from rfl]
 simp only []
 rw [hb]
 simp only []
 rw [if_neg (by omega), Nat.zero_add, Nat.mul_one]
theorem slice_to {t e b m N : Nat} (hm : m ≤ N) (ht : uT P t = some (.slice e)) (hz : sizeT P e = some 1) (hm0 : 0 < N) : sliceF P t (.slice (some ⟨b, 0, none⟩) N N) none (some (.int .i64 ((m : Nat) : Int))) none = some (.slice (some ⟨b, 0, none⟩) m N) := by
 have hb : boundF (some (.int .i64 ((m : Nat) : Int))) N N = some m := by
  simp only [boundF]
  rw [if_pos (by omega), Int.toNat_natCast]
 simp only [sliceF, ht, hz]
 rw [hb]
 simp only []
 rw [show boundF none 0 m = some 0 from rfl]
 simp
end
def rep (k : Nat) (X : List Int) : List Int := (List.replicate k X).flatten
theorem rep_len (X : List Int) : ∀ k, (rep k X).length = X.length * k
 | 0 => rfl
 | k + 1 => by
  have := rep_len X k
  unfold rep at this ⊢
  rw [List.replicate_succ, List.flatten_cons, List.length_append, this, Nat.mul_succ]
  omega
theorem rep_add (X : List Int) (a b : Nat) : rep (a + b) X = rep a X ++ rep b X := by
 unfold rep
 rw [← List.flatten_append, List.replicate_append_replicate]
def rowM (k : Nat) (X : List Int) (m : Nat) : List Value := ((rep k X).take m).map (Value.int .i64) ++ List.replicate (X.length * k - m) (.int .i64 0)
theorem rowM_len {k : Nat} {X : List Int} {m : Nat} (hm : m ≤ X.length * k) : (rowM k X m).length = X.length * k := by
 unfold rowM
 rw [List.length_append, List.length_map, List.length_take, rep_len, List.length_replicate]
 omega
theorem rowM_start {k : Nat} {X : List Int} (hk : 0 < k) : overL (List.replicate (X.length * k) (Value.int .i64 0)) 0 ((X.map (Value.int .i64)).take (X.length * 1)) = rowM k X X.length := by
 have h1 : (rep k X).take X.length = X := by
  obtain ⟨j, rfl⟩ : ∃ j, k = 1 + j := ⟨k - 1, by omega⟩
  rw [rep_add, List.take_append_of_le_length (by rw [rep_len]; omega)]
  have : rep 1 X = X := by unfold rep; simp
  rw [this, List.take_length]
 unfold overL rowM
 rw [h1, List.take_zero, List.nil_append, List.take_of_length_le (by simp), List.length_map, List.drop_replicate]
 congr 2
 omega
theorem rep_cut (X : List Int) {j k q : Nat} (hj : j ≤ k) (hq : q ≤ X.length * (k - j)) : (rep k X).take q = ((rep k X).drop (X.length * j)).take q := by
 have e1 : rep k X = rep j X ++ rep (k - j) X := by rw [← rep_add]; congr 1; omega
 have e2 : rep k X = rep (k - j) X ++ rep j X := by rw [← rep_add]; congr 1; omega
 have h1 : (rep k X).drop (X.length * j) = rep (k - j) X := by
  rw [e1, List.drop_append_of_le_length (by rw [rep_len]; exact Nat.le_refl _), List.drop_of_length_le (by rw [rep_len]; exact Nat.le_refl _), List.nil_append]
 rw [h1, e2, List.take_append_of_le_length (by rw [rep_len]; exact hq)]
theorem rowM_next {k : Nat} {X : List Int} {m q j : Nat} (hm : m = X.length * j) (hq1 : q ≤ m) (hq2 : m + q ≤ X.length * k) : overL (rowM k X m) m ((((rowM k X m).drop 0).take (m * 1)).take (q * 1)) = rowM k X (m + q) := by
 have hl : ((rep k X).take m).length = m := by rw [List.length_take, rep_len]; omega
 have hs : ((((rowM k X m).drop 0).take (m * 1)).take (q * 1)) = ((rep k X).take q).map (Value.int .i64) := by
  unfold rowM
  rw [List.drop_zero, Nat.mul_one, Nat.mul_one, List.take_append_of_le_length (by rw [List.length_map, hl]; exact Nat.le_refl _), ← List.map_take, ← List.map_take, List.take_take, List.take_take]
  congr 2
  omega
 have hql : ((rep k X).take q).length = q := by rw [List.length_take, rep_len]; omega
 have hcut : (rep k X).take (m + q) = (rep k X).take m ++ (rep k X).take q := by
  rw [List.take_add]
  congr 1
  rcases Nat.eq_zero_or_pos X.length with h | h
  ·have : q = 0 := by rw [h, Nat.zero_mul] at hq2; omega
   subst this
   rw [List.take_zero, List.take_zero]
  ·subst hm
   have hj : j ≤ k := Nat.le_of_mul_le_mul_left (by omega : X.length * j ≤ X.length * k) h
   exact (rep_cut X hj (by rw [Nat.mul_sub]; omega)).symm
 rw [hs]
 unfold overL rowM
 rw [List.take_append_of_le_length (by rw [List.length_map, hl]; exact Nat.le_refl _), List.take_of_length_le (by rw [List.length_map, hl]; exact Nat.le_refl _), List.length_map, hql, hcut, List.map_append, List.append_assoc, List.append_assoc]
 congr 2
 rw [List.drop_append, List.drop_of_length_le (by rw [List.length_map, hl]; omega), List.nil_append, List.length_map, hl, List.drop_replicate]
 congr 1
 omega
end Go.Proofs.YthemeeiedlbhkaaGreatDoor
namespace Go.Proofs.YthemeeiedlbhkaaGreatDoor
set_option maxRecDepth 100000
theorem src_row {σ : Mem} {b m c : Nat} {r : Row} (h : σ.get b = some (.row r)) (h0 : 0 < m) (hm : m ≤ r.cs.length) : srcF σ 1 (.slice (some ⟨b, 0, none⟩) m c) = some (m, (r.cs.drop 0).take (m * 1)) := by
 unfold srcF
 simp only [if_neg (show ¬ m = 0 by omega), h]
 rw [if_pos (by omega)]
theorem rowM_ones (k : Nat) (X : List Int) (m : Nat) : (rowM k X m).all (·.oneCell') = true := by
 unfold rowM
 rw [List.all_append, ints_one, Bool.true_and, List.all_eq_true]
 intro x hx
 rw [(List.mem_replicate.1 hx).2]
 rfl
theorem rowM_ones' (k : Nat) (X : List Int) (m i : Nat) : (((rowM k X m).drop 0).take i).all (·.oneCell') = true := by
 have h := rowM_ones k X m
 rw [List.all_eq_true] at h ⊢
 exact fun x hx => h x (List.mem_of_mem_drop (List.mem_of_mem_take hx))
theorem rowM_full (k : Nat) (X : List Int) : rowM k X (X.length * k) = (rep k X).map (Value.int .i64) := by
 unfold rowM
 rw [List.take_of_length_le (by rw [rep_len]; exact Nat.le_refl _), Nat.sub_self]
 exact List.append_nil _
theorem rep_step {X : List Int} {k m : Nat} (hj : (∃ j, m = X.length * j) ∨ m = X.length * k) (hlt : m < X.length * k) : (∃ j, m + min m (X.length * k - m) = X.length * j) ∨ m + min m (X.length * k - m) = X.length * k := by
 obtain ⟨j, hm⟩ := hj.resolve_right (by omega)
 rcases Nat.le_total m (X.length * k - m) with h | h
 ·exact .inl ⟨2 * j, by rw [Nat.min_eq_left h, Nat.mul_left_comm, ← hm]; omega⟩
 ·exact .inr (by omega)
section
variable {G : Nat} {A : Abs} {σ : Mem} {F : Nat → Option Blk2} {L : List Ent}
open Go.RowKit in
theorem s_mul {x y : Nat} (hx : x < 18446744073709551616) (hy : y < 18446744073709551616) (h : x * y ≤ 1000000) : SCall G Tryz.prog 110 #[.int .u64 ((x : Nat) : Int), .int .u64 ((y : Nat) : Int)] σ (.tuple #[.int .u64 0, .int .u64 ((x * y : Nat) : Int)]) σ := by
 have := below_call (G := G) (σ := σ) rfl rfl fun w => (Tryz.bits_Mul x y hx hy w).mono fun e w' ⟨k1, k2⟩ => ⟨k1, k2 ▸ Below.refl _ _⟩
 rw [Nat.div_eq_of_lt (by omega), Nat.mod_eq_of_lt (by omega)] at this
 exact this
set_option maxHeartbeats 2000000 in
theorem grow_nil {n : Nat} (hn0 : 0 < n) (hn : n ≤ 1000) (H : Lies G A F σ L) : WC G Tryz.prog 131 #[.slice none 0 0, .int .i64 ((n : Nat) : Int)] σ fun r σ' => Lies G A F σ' (.sl 48 1 r 0 [] :: L) := by
 refine WC.enter (fn := Tryz.f131) Tryz.func131 rfl ?_
 refine W.rg [(0, .slice none 0 0), (1, .int .i64 ((n : Nat) : Int))] fun TA => ?_
 refine W.seq (W.region ?_)
 refine RW.v ?_
 refine RW.nil ?_
 refine W.rg [(0, .slice none 0 0), (1, .int .i64 ((n : Nat) : Int))] fun TA => ?_
 refine W.seq ?_
 refine W.seq (W.region ?_)
 refine RW.v ?_
 refine RW.valE (v' := .bool false) (by kernel_rfl) (by kernel_rfl) rfl (congrArg Value.bool (decide_eq_false (by omega))) (by kernel_rfl) ?_
 refine RW.nil ?_
 refine W.c0 ?_
 refine W.skip ?_
 refine W.seq ?_
 refine W.seq (W.region ?_)
 iterate 5 refine RW.v ?_
 refine RW.valE (v' := .int .i64 0) (by kernel_rfl) (by kernel_rfl) rfl (by kernel_rfl) (by kernel_rfl) ?_
 refine RW.valE (v' := .int .i64 ((n : Nat) : Int)) (by kernel_rfl) (by kernel_rfl) rfl (congrArg (Value.int .i64) ((wrap_in (by omega) (by omega)).trans (by omega))) (by kernel_rfl) ?_
 refine RW.v ?_
 refine RW.nil ?_
 refine W.rg [(0, .slice none 0 0), (1, .int .i64 ((n : Nat) : Int))] fun TA => ?_
 refine W.seq (W.region ?_)
 refine RW.v ?_
 refine RW.valE (v' := .bool true) (by kernel_rfl) (by kernel_rfl) rfl (congrArg Value.bool (decide_eq_true (by omega))) (by kernel_rfl) ?_
 refine RW.nil ?_
 refine W.c1 ?_
 refine W.region ?_
 iterate 3 refine RW.v ?_
 refine RW.val (v := .slice none 0 0) (by kernel_rfl) (by kernel_rfl) (by kernel_rfl) (by kernel_rfl) ?_
 refine RW.v ?_
 replace H := H.nilSl 48 1
 refine RW.appI H 0 (n := n) (ik := .i64) (z := .slice none 0 0) (by kernel_rfl) (by kernel_rfl) rfl rfl rfl rfl rfl rfl rfl (by kernel_rfl) (by kernel_rfl) (by kernel_rfl) (by kernel_rfl) rfl rfl (by decide) (by omega) (by omega) (by kernel_rfl) ?_
 clear H; intro _ v1 H
 dsimp only [setL, delL] at H
 iterate 2 refine RW.v ?_
 obtain ⟨v2, hv2, H⟩ := H.cutSl (P := Tryz.prog) (t := 54) (i := 0) 0 rfl (by omega) (by kernel_rfl) (by kernel_rfl)
 dsimp only [setL, delL] at H
 refine RW.vop (v := v2) (by kernel_rfl) (by kernel_rfl) (vop_slice rfl hv2) (by kernel_rfl) ?_
 refine RW.v ?_
 refine RW.nil ?_
 refine W.rg [(0, v2)] fun TA => ?_
 refine W.seq (W.region ?_)
 iterate 2 refine RW.v ?_
 refine RW.nil ?_
 refine W.ret ?_
 refine endG (by rfl) (by exact resL_tmp rfl) ?_
 rw [Nat.zero_mul, List.take_zero] at H
 exact H
set_option maxHeartbeats 2000000 in
theorem concat2 {b n1 n2 : Nat} {w1 w2 : Value} {xs ys : List Value} {rT : TypeId} {rg : Bool} (h1 : SlF F 1 w1 n1 xs) (h2 : SlF F 1 w2 n2 ys) (o1 : xs.all (·.oneCell') = true) (o2 : ys.all (·.oneCell') = true) (hb : F b = some (.row ⟨[w1, w2], rT, rg⟩)) (hn0 : 0 < n1 + n2) (hn : n1 + n2 ≤ 1000) (H : Lies G A F σ L) : WC G Tryz.prog 90 #[.slice (some ⟨b, 0, none⟩) 2 2] σ fun r σ' => Lies G A F σ' (.sl 48 1 r (n1 + n2) (xs ++ ys) :: L) := by
 refine WC.enter (fn := Tryz.f90) Tryz.func90 rfl ?_
 refine W.rg [(0, .slice (some ⟨b, 0, none⟩) 2 2)] fun TA => ?_
 refine W.seq (W.region ?_)
 refine RW.v ?_
 refine RW.nil ?_
 refine W.rg [(0, .slice (some ⟨b, 0, none⟩) 2 2)] fun TA => ?_
 refine W.seq (W.region ?_)
 refine RW.v ?_
 refine RW.nil ?_
 refine W.rg [(0, .slice (some ⟨b, 0, none⟩) 2 2), (3, .int .i64 0)] fun TA => ?_
 refine W.seq ?_
 refine W.seq (W.region ?_)
 iterate 3 refine RW.v ?_
 refine RW.nil ?_
 refine W.rg [(0, .slice (some ⟨b, 0, none⟩) 2 2), (3, .int .i64 0), (9, .slice (some ⟨b, 0, none⟩) 2 2), (10, .int .i64 2), (11, .int .i64 0)] fun TA => ?_
 refine W.block ?_
 refine W.unroll (WL.once ?_)
 refine W.seq (W.region ?_)
 refine RW.v ?_
 refine RW.nil ?_
 refine W.rg [(0, .slice (some ⟨b, 0, none⟩) 2 2), (3, .int .i64 0), (9, .slice (some ⟨b, 0, none⟩) 2 2), (10, .int .i64 2), (11, .int .i64 0), (12, .bool true)] fun TA => ?_
 refine W.seq ?_
 refine W.c1 ?_
 refine W.skip ?_
 refine W.seq ?_
 refine W.block ?_
 refine W.seq (W.region ?_)
 refine RW.idx (s := 1) (by kernel_rfl) (by kernel_rfl) rfl Tryz.underlying197 (by kernel_rfl) rfl rfl ⟨by decide, by decide⟩ (by kernel_rfl) ?_
 refine RW.loads 1 (by kernel_rfl) (by kernel_rfl) rfl rfl (H.old _ _ hb) rfl rfl (by kernel_rfl) ?_
 refine RW.v ?_
 refine RW.nil ?_
 refine W.rg [(0, .slice (some ⟨b, 0, none⟩) 2 2), (3, .int .i64 0), (5, w1), (9, .slice (some ⟨b, 0, none⟩) 2 2), (10, .int .i64 2), (11, .int .i64 0)] fun TA => ?_
 refine W.seq (W.region ?_)
 iterate 2 refine RW.v ?_
 refine RW.len (by kernel_rfl) (by kernel_rfl) rfl rfl rfl rfl (h1.len (e := 48) (by kernel_rfl)) (by kernel_rfl) ?_
 refine RW.valE (v' := .int .i64 (0 + (n1 : Int))) (by kernel_rfl) (by kernel_rfl) rfl (congrArg (Value.int .i64) (wrap_in (by omega) (by omega))) (by kernel_rfl) ?_
 refine RW.v ?_
 refine RW.nil ?_
 refine W.rg [(0, .slice (some ⟨b, 0, none⟩) 2 2), (3, .int .i64 (0 + (n1 : Int))), (9, .slice (some ⟨b, 0, none⟩) 2 2), (10, .int .i64 2), (11, .int .i64 0)] fun TA => ?_
 refine W.seq (W.region ?_)
 refine RW.v ?_
 refine RW.valE (v' := .bool false) (by kernel_rfl) (by kernel_rfl) rfl (congrArg Value.bool (decide_eq_false (by omega))) (by kernel_rfl) ?_
 refine RW.nil ?_
 refine W.c0 ?_
 refine W.skip ?_
 refine blkQ_normal ?_
 refine W.region ?_
 iterate 2 refine RW.v ?_
 refine RW.nil ?_
 refine WL.once ?_
 refine W.rg [(0, .slice (some ⟨b, 0, none⟩) 2 2), (3, .int .i64 (0 + (n1 : Int))), (9, .slice (some ⟨b, 0, none⟩) 2 2), (10, .int .i64 2), (11, .int .i64 1)] fun TA => ?_
 refine W.seq (W.region ?_)
 refine RW.v ?_
 refine RW.nil ?_
 refine W.rg [(0, .slice (some ⟨b, 0, none⟩) 2 2), (3, .int .i64 (0 + (n1 : Int))), (9, .slice (some ⟨b, 0, none⟩) 2 2), (10, .int .i64 2), (11, .int .i64 1), (12, .bool true)] fun TA => ?_
 refine W.seq ?_
 refine W.c1 ?_
 refine W.skip ?_
 refine W.seq ?_
 refine W.block ?_
 refine W.seq (W.region ?_)
 refine RW.idx (s := 1) (by kernel_rfl) (by kernel_rfl) rfl Tryz.underlying197 (by kernel_rfl) rfl rfl ⟨by decide, by decide⟩ (by kernel_rfl) ?_
 refine RW.loads 1 (by kernel_rfl) (by kernel_rfl) rfl rfl (H.old _ _ hb) rfl rfl (by kernel_rfl) ?_
 refine RW.v ?_
 refine RW.nil ?_
 refine W.rg [(0, .slice (some ⟨b, 0, none⟩) 2 2), (3, .int .i64 (0 + (n1 : Int))), (5, w2), (9, .slice (some ⟨b, 0, none⟩) 2 2), (10, .int .i64 2), (11, .int .i64 1)] fun TA => ?_
 refine W.seq (W.region ?_)
 iterate 2 refine RW.v ?_
 refine RW.len (by kernel_rfl) (by kernel_rfl) rfl rfl rfl rfl (h2.len (e := 48) (by kernel_rfl)) (by kernel_rfl) ?_
 refine RW.valE (v' := .int .i64 ((0 + (n1 : Int)) + (n2 : Int))) (by kernel_rfl) (by kernel_rfl) rfl (congrArg (Value.int .i64) (wrap_in (by omega) (by omega))) (by kernel_rfl) ?_
 refine RW.v ?_
 refine RW.nil ?_
 refine W.rg [(0, .slice (some ⟨b, 0, none⟩) 2 2), (3, .int .i64 ((0 + (n1 : Int)) + (n2 : Int))), (9, .slice (some ⟨b, 0, none⟩) 2 2), (10, .int .i64 2), (11, .int .i64 1)] fun TA => ?_
 refine W.seq (W.region ?_)
 refine RW.v ?_
 refine RW.valE (v' := .bool false) (by kernel_rfl) (by kernel_rfl) rfl (congrArg Value.bool (decide_eq_false (by omega))) (by kernel_rfl) ?_
 refine RW.nil ?_
 refine W.c0 ?_
 refine W.skip ?_
 refine blkQ_normal ?_
 refine W.region ?_
 iterate 2 refine RW.v ?_
 refine RW.nil ?_
 refine WL.once ?_
 refine W.rg [(0, .slice (some ⟨b, 0, none⟩) 2 2), (3, .int .i64 ((0 + (n1 : Int)) + (n2 : Int))), (9, .slice (some ⟨b, 0, none⟩) 2 2), (10, .int .i64 2), (11, .int .i64 2)] fun TA => ?_
 refine W.seq (W.region ?_)
 refine RW.v ?_
 refine RW.nil ?_
 refine W.rg [(0, .slice (some ⟨b, 0, none⟩) 2 2), (3, .int .i64 ((0 + (n1 : Int)) + (n2 : Int))), (9, .slice (some ⟨b, 0, none⟩) 2 2), (10, .int .i64 2), (11, .int .i64 2), (12, .bool false)] fun TA => ?_
 refine W.seq ?_
 refine W.c0 ?_
 refine W.exit _ ?_
 refine seqQ_exit ?_
 refine onceQ_exit ?_
 refine blkQ_here ?_
 refine W.seq (W.region ?_)
 refine RW.valE (v' := .int .i64 ((n1 + n2 : Nat) : Int)) (by kernel_rfl) (by kernel_rfl) rfl (congrArg (Value.int .i64) (by omega)) (by kernel_rfl) ?_
 refine RW.cl ?_
 refine ((grow_nil (n := n1 + n2) (by omega) (by omega) H).mono ?_)
 clear H
 rintro r _ H
 refine RW.v ?_
 refine RW.nil ?_
 refine W.rg [(0, .slice (some ⟨b, 0, none⟩) 2 2), (6, r)] fun TA => ?_
 refine W.seq ?_
 refine W.seq (W.region ?_)
 iterate 3 refine RW.v ?_
 refine RW.nil ?_
 refine W.rg [(6, r), (25, .slice (some ⟨b, 0, none⟩) 2 2), (26, .int .i64 2), (27, .int .i64 0)] fun TA => ?_
 refine W.block ?_
 refine W.unroll (WL.once ?_)
 refine W.seq (W.region ?_)
 refine RW.v ?_
 refine RW.nil ?_
 refine W.rg [(6, r), (25, .slice (some ⟨b, 0, none⟩) 2 2), (26, .int .i64 2), (27, .int .i64 0), (28, .bool true)] fun TA => ?_
 refine W.seq ?_
 refine W.c1 ?_
 refine W.skip ?_
 refine W.seq ?_
 refine W.block ?_
 refine W.seq (W.region ?_)
 refine RW.idx (s := 1) (by kernel_rfl) (by kernel_rfl) rfl Tryz.underlying197 (by kernel_rfl) rfl rfl ⟨by decide, by decide⟩ (by kernel_rfl) ?_
 refine RW.loads 1 (by kernel_rfl) (by kernel_rfl) rfl rfl (H.old _ _ hb) rfl rfl (by kernel_rfl) ?_
 refine RW.v ?_
 refine RW.nil ?_
 refine W.rg [(6, r), (8, w1), (25, .slice (some ⟨b, 0, none⟩) 2 2), (26, .int .i64 2), (27, .int .i64 0)] fun TA => ?_
 refine W.region ?_
 iterate 2 refine RW.v ?_
 refine RW.appF H 0 (e2 := 48) h1 (by kernel_rfl) (by kernel_rfl) rfl rfl rfl rfl rfl rfl rfl (by kernel_rfl) (by kernel_rfl) (by kernel_rfl) (by decide) (o1) (by omega) (by kernel_rfl) ?_
 clear H; intro _ v1 _ H
 dsimp only [setL, delL] at H
 refine RW.v ?_
 refine RW.nil ?_
 refine blkQ_normal ?_
 refine W.rg [(6, v1), (25, .slice (some ⟨b, 0, none⟩) 2 2), (26, .int .i64 2), (27, .int .i64 0)] fun TA => ?_
 refine W.region ?_
 iterate 2 refine RW.v ?_
 refine RW.nil ?_
 refine WL.once ?_
 refine W.rg [(6, v1), (25, .slice (some ⟨b, 0, none⟩) 2 2), (26, .int .i64 2), (27, .int .i64 1)] fun TA => ?_
 refine W.seq (W.region ?_)
 refine RW.v ?_
 refine RW.nil ?_
 refine W.rg [(6, v1), (25, .slice (some ⟨b, 0, none⟩) 2 2), (26, .int .i64 2), (27, .int .i64 1), (28, .bool true)] fun TA => ?_
 refine W.seq ?_
 refine W.c1 ?_
 refine W.skip ?_
 refine W.seq ?_
 refine W.block ?_
 refine W.seq (W.region ?_)
 refine RW.idx (s := 1) (by kernel_rfl) (by kernel_rfl) rfl Tryz.underlying197 (by kernel_rfl) rfl rfl ⟨by decide, by decide⟩ (by kernel_rfl) ?_
 refine RW.loads 1 (by kernel_rfl) (by kernel_rfl) rfl rfl (H.old _ _ hb) rfl rfl (by kernel_rfl) ?_
 refine RW.v ?_
 refine RW.nil ?_
 refine W.rg [(6, v1), (8, w2), (25, .slice (some ⟨b, 0, none⟩) 2 2), (26, .int .i64 2), (27, .int .i64 1)] fun TA => ?_
 refine W.region ?_
 iterate 2 refine RW.v ?_
 refine RW.appF H 0 (e2 := 48) h2 (by kernel_rfl) (by kernel_rfl) rfl rfl rfl rfl rfl rfl rfl (by kernel_rfl) (by kernel_rfl) (by kernel_rfl) (by decide) (o2) (by omega) (by kernel_rfl) ?_
 clear H; intro _ v2 _ H
 dsimp only [setL, delL] at H
 refine RW.v ?_
 refine RW.nil ?_
 refine blkQ_normal ?_
 refine W.rg [(6, v2), (25, .slice (some ⟨b, 0, none⟩) 2 2), (26, .int .i64 2), (27, .int .i64 1)] fun TA => ?_
 refine W.region ?_
 iterate 2 refine RW.v ?_
 refine RW.nil ?_
 refine WL.once ?_
 refine W.rg [(6, v2), (25, .slice (some ⟨b, 0, none⟩) 2 2), (26, .int .i64 2), (27, .int .i64 2)] fun TA => ?_
 refine W.seq (W.region ?_)
 refine RW.v ?_
 refine RW.nil ?_
 refine W.rg [(6, v2), (25, .slice (some ⟨b, 0, none⟩) 2 2), (26, .int .i64 2), (27, .int .i64 2), (28, .bool false)] fun TA => ?_
 refine W.seq ?_
 refine W.c0 ?_
 refine W.exit _ ?_
 refine seqQ_exit ?_
 refine onceQ_exit ?_
 refine blkQ_here ?_
 refine W.seq (W.region ?_)
 iterate 2 refine RW.v ?_
 refine RW.nil ?_
 refine W.ret ?_
 refine endG (by rfl) (by exact resL_tmp rfl) ?_
 have K := H
 rw [List.nil_append, Nat.zero_add] at K
 exact K
set_option maxHeartbeats 4000000 in
theorem repeat_int {k : Nat} {X : List Int} {v : Value} (hs : SlF F 1 v X.length (X.map (Value.int .i64))) (hX : 0 < X.length) (hk : 0 < k) (hk2 : k ≤ 1000000) (hN : X.length * k ≤ 1000000) (H : Lies G A F σ L) : WC G Tryz.prog 73 #[v, .int .i64 ((k : Nat) : Int)] σ fun r σ' => ∃ b, r = .slice (some ⟨b, 0, none⟩) (X.length * k) (X.length * k) ∧ Lies G A F σ' (.at_ b (.row ⟨(rep k X).map (Value.int .i64), 3, false⟩) :: L) := by
 have hle : X.length ≤ X.length * k := Nat.le_mul_of_pos_right _ hk
 refine WC.enter (fn := Tryz.f73) Tryz.func73 rfl ?_
 refine W.rg [(0, v), (1, .int .i64 ((k : Nat) : Int))] fun TA => ?_
 refine W.seq (W.region ?_)
 refine RW.v ?_
 refine RW.nil ?_
 refine W.rg [(0, v), (1, .int .i64 ((k : Nat) : Int))] fun TA => ?_
 refine W.seq ?_
 refine W.seq (W.region ?_)
 refine RW.v ?_
 refine RW.valE (v' := .bool false) (by kernel_rfl) (by kernel_rfl) rfl (congrArg Value.bool (decide_eq_false (by omega))) (by kernel_rfl) ?_
 refine RW.nil ?_
 refine W.c0 ?_
 refine W.skip ?_
 refine W.seq (W.region ?_)
 refine RW.v ?_
 refine RW.len (by kernel_rfl) (by kernel_rfl) rfl rfl rfl rfl (hs.len (e := 3) (by kernel_rfl)) (by kernel_rfl) ?_
 refine RW.valE (v' := .int .u64 (X.length : Int)) (by kernel_rfl) (by kernel_rfl) rfl (congrArg (Value.int .u64) (wrap_u (by omega) (by omega))) (by kernel_rfl) ?_
 refine RW.v ?_
 refine RW.valE (v' := .int .u64 ((k : Nat) : Int)) (by kernel_rfl) (by kernel_rfl) rfl (congrArg (Value.int .u64) (wrap_u (by omega) (by omega))) (by kernel_rfl) ?_
 refine RW.cl ?_
 refine ⟨_, _, (s_mul (x := X.length) (y := k) (by omega) (by omega) hN), ?_⟩
 iterate 5 refine RW.v ?_
 refine RW.nil ?_
 refine W.rg [(0, v), (5, .int .u64 0), (6, .int .u64 ((X.length * k : Nat) : Int))] fun TA => ?_
 refine W.seq ?_
 refine W.seq (W.region ?_)
 iterate 3 refine RW.v ?_
 refine RW.val (by rfl) (by kernel_rfl) rfl (by kernel_rfl) ?_
 refine RW.valE (v' := .bool false) (by rfl) (by kernel_rfl) rfl (congrArg Value.bool (decide_eq_false (by omega))) (by kernel_rfl) ?_
 refine RW.v ?_
 refine RW.nil ?_
 refine W.c0 ?_
 refine W.skip ?_
 refine W.seq (W.region ?_)
 refine RW.v ?_
 refine RW.valE (v' := .int .i64 ((X.length * k : Nat) : Int)) (by kernel_rfl) (by kernel_rfl) rfl (congrArg (Value.int .i64) (wrap_in (by omega) (by omega))) (by kernel_rfl) ?_
 refine RW.mkS H (e := 3) (n := X.length * k) (z := .int .i64 0) (by kernel_rfl) (by kernel_rfl) rfl rfl rfl (by kernel_rfl) (by kernel_rfl) (by kernel_rfl) (by kernel_rfl) rfl rfl (by omega) (by kernel_rfl) rfl ?_
 clear H; intro _ b H
 refine RW.v ?_
 refine RW.nil ?_
 refine W.rg [(0, v), (7, .slice (some ⟨b, 0, none⟩) (X.length * k) (X.length * k))] fun TA => ?_
 refine W.seq (W.region ?_)
 iterate 2 refine RW.v ?_
 refine RW.cpy H 0 (e := 3) (s := 1) (q := X.length) (by kernel_rfl) (by kernel_rfl) rfl rfl rfl rfl rfl rfl rfl (by kernel_rfl) (by kernel_rfl) (slf_src hs (by decide) H.old) (Nat.min_eq_left hle) (by omega) (by rw [List.length_take, List.length_map, List.length_replicate]; omega) (ints_one X) (rowM_start hk) (by kernel_rfl) ?_
 clear H; intro _ H
 dsimp only [setL, delL] at H
 refine RW.v ?_
 refine RW.nil ?_
 refine W.rg [(7, .slice (some ⟨b, 0, none⟩) (X.length * k) (X.length * k)), (8, .int .i64 ((X.length : Nat) : Int))] fun TA => ?_
 refine W.seq ?_
 refine W.block ?_
 refine W.loop (fun mm ta σ => ∃ (m : Nat), (mm + m = X.length * k) ∧ (0 < m) ∧ (m ≤ X.length * k) ∧ ((∃ j, m = X.length * j) ∨ m = X.length * k) ∧ Lies G A F σ (.at_ b (.row ⟨rowM k X m, 3, false⟩) :: (L)) ∧ ta 7 = .slice (some ⟨b, 0, none⟩) (X.length * k) (X.length * k) ∧ ta 8 = .int .i64 ((m : Nat) : Int)) (X.length * k - X.length) ?_ ?_
 ·exact ⟨X.length, (by omega), (by omega), hle, (.inl ⟨1, (Nat.mul_one _).symm⟩), H, rfl, rfl⟩
 clear H
 rintro mm ta _ ⟨m, hm, hm0, hmN, hj, H, e7, e8⟩
 refine W.rst [(7, .slice (some ⟨b, 0, none⟩) (X.length * k) (X.length * k)), (8, .int .i64 ((m : Nat) : Int))] ⟨e7, e8, trivial⟩ fun TA => ?_
 clear e7 e8
 refine W.seq ?_
 refine W.seq (W.region ?_)
 iterate 4 refine RW.v ?_
 refine RW.nil ?_
 refine W.rg [(7, .slice (some ⟨b, 0, none⟩) (X.length * k) (X.length * k)), (8, .int .i64 ((m : Nat) : Int)), (37, .bool (decide (((m : Nat) : Int) < ((X.length * k : Nat) : Int))))] fun TA => ?_
 refine W.cond rfl (fun hc1 => ?_) (fun hc1 => ?_)
 ·have hc1b := hc1
  have hc1 := of_decide_eq_true hc1
  refine W.skip ?_
  refine W.block ?_
  refine W.drawn (by kernel_rfl) (by kernel_rfl) H.gn ?_
  have H2 := H
  iterate 3 refine RW.v ?_
  have hlt : m < X.length * k := by omega
  refine RW.vop (v := .slice (some ⟨b, m, none⟩) (X.length * k - m) (X.length * k - m)) (by kernel_rfl) (by kernel_rfl) (vop_slice rfl (slice_from (e := 3) hlt (by kernel_rfl) (by kernel_rfl))) (by kernel_rfl) ?_
  iterate 2 refine RW.v ?_
  refine RW.vop (v := .slice (some ⟨b, 0, none⟩) m (X.length * k)) (by kernel_rfl) (by kernel_rfl) (vop_slice rfl (slice_to (e := 3) hmN (by kernel_rfl) (by kernel_rfl) (by omega))) (by kernel_rfl) ?_
  obtain ⟨j, hmj⟩ : ∃ j, m = X.length * j := hj.resolve_right (by omega)
  refine RW.cpy H2 0 (e := 3) (s := 1) (n := m) (xs := ((rowM k X m).drop 0).take (m * 1)) (q := (min m (X.length * k - m))) (by kernel_rfl) (by kernel_rfl) rfl rfl rfl rfl rfl rfl rfl (by kernel_rfl) (by kernel_rfl) (src_row (H2.get 0 rfl) (by omega) (by rw [rowM_len hmN]; omega)) rfl (by omega) (by rw [List.length_take, List.length_take, List.drop_zero, rowM_len hmN]; omega) (rowM_ones' _ _ _ _) (rowM_next hmj (by omega) (by omega)) (by kernel_rfl) ?_
  intro _ H3
  dsimp only [setL, delL] at H3
  refine RW.valE (v' := .int .i64 ((m + min m (X.length * k - m) : Nat) : Int)) (by kernel_rfl) (by kernel_rfl) rfl (congrArg (Value.int .i64) ((wrap_in (by omega) (by omega)).trans (by omega))) (by kernel_rfl) ?_
  refine RW.v ?_
  refine RW.nil ?_
  refine ⟨⟨by kernel_rfl, ⟨trivial, trivial, trivial, trivial, trivial, trivial, trivial, trivial, trivial, trivial, trivial⟩⟩, ?_⟩
  replace H := H3
  clear H2 H3
  refine blkQ_normal ?_
  exact ⟨rfl, mm - (min m (X.length * k - m)), by omega, m + min m (X.length * k - m), (by omega), (by omega), (by omega), (rep_step hj hlt), H, rfl, rfl⟩
 ·have hc1b := hc1
  have hc1 := of_decide_eq_false hc1
  refine W.exit _ ?_
  refine seqQ_exit ?_
  refine rndQ_exit ?_
  refine blkQ_here ?_
  refine W.seq (W.region ?_)
  iterate 2 refine RW.v ?_
  refine RW.nil ?_
  refine W.ret ?_
  refine endG (by rfl) (by exact resL_tmp rfl) ?_
  obtain rfl : m = X.length * k := by omega
  rw [rowM_full] at H
  exact ⟨_, rfl, H⟩
end
end Go.Proofs.YthemeeiedlbhkaaGreatDoor
