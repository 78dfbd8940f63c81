/-
  Contracts of the reference's Is, in, Width, small, Up, Down, Fold, Word. Conditions: none.
-/
import Derived.Test.YtbfldnppfenbgaaDoorFolds
namespace Go.Proofs.YtbfldnppfenbgaaDoor
open Go.RowKit Go.Lib
set_option maxRecDepth 100000

theorem ref_is (c : Int) (w : World) : Calls Tryd.prog 20 #[.int .i64 c] w fun e w' => e = .returned (.bool (chB c)) ∧ w = w' := by
  by_cases h0 : 0 ≤ c
  · by_cases h1 : c ≤ 1114111
    · by_cases h2 : c < 55296
      · have e : chB c = true := by rw [chB_iff]; omega
        rw [e]; clear e
        go_enter Tryd.func20, Tryd.ntmps20
        go_wp2
        go_ret
        exact ⟨rfl, rfl⟩
      · by_cases h3 : 57343 < c
        · have e : chB c = true := by rw [chB_iff]; omega
          rw [e]; clear e
          go_enter Tryd.func20, Tryd.ntmps20
          go_wp2
          go_ret
          exact ⟨rfl, rfl⟩
        · have e : chB c = false := by simp only [chB, decide_eq_false_iff_not]; omega
          rw [e]; clear e
          go_enter Tryd.func20, Tryd.ntmps20
          go_wp2
          go_ret
          exact ⟨rfl, rfl⟩
    · have e : chB c = false := by simp only [chB, decide_eq_false_iff_not]; omega
      rw [e]; clear e
      go_enter Tryd.func20, Tryd.ntmps20
      go_wp2
      go_ret
      exact ⟨rfl, rfl⟩
  · have e : chB c = false := by simp only [chB, decide_eq_false_iff_not]; omega
    rw [e]; clear e
    go_enter Tryd.func20, Tryd.ntmps20
    go_wp2
    go_ret
    exact ⟨rfl, rfl⟩

theorem inAny_take (c : Int) (sp : List (Int × Int)) (k : Nat) (h : k < sp.length) : inAny c (sp.take (k + 1)) = (inAny c (sp.take k) || (decide ((spAt sp k).1 ≤ c) && decide (c ≤ (spAt sp k).2))) := by
  have e : spAt sp k = sp[k] := by simp [spAt, h]
  rw [List.take_add_one, List.getElem?_eq_getElem h, e]
  simp only [inAny, List.any_append, Option.toList_some, List.any_cons, List.any_nil, Bool.or_false]
theorem inAny_of (c : Int) (sp : List (Int × Int)) (k : Nat) (h : k < sp.length) (h1 : (spAt sp k).1 ≤ c) (h2 : c ≤ (spAt sp k).2) : inAny c sp = true := by
  simp only [inAny, List.any_eq_true, Bool.and_eq_true, decide_eq_true_eq]
  exact ⟨_, spAt_mem h, h1, h2⟩

set_option maxHeartbeats 1000000 in
theorem ref_in (g : Nat) (T : TypeId) (sp : List (Int × Int)) (c : Int) (W : World) (hg : W.heap[g]? = some (.cells (flatSp sp).toArray T (0, 0))) (hl : sp.length < 1000) :
    Calls Tryd.prog 42 #[.int .i64 c, .slice (some ⟨g, 0, none⟩) (2 * sp.length) (2 * sp.length)] W fun e w' => e = .returned (.bool (inAny c sp)) ∧ W = w' := by
  have HG := Lib.hid hg
  clear hg
  go_enter Tryd.func42, Tryd.ntmps42
  go_wp2
  go_loop [5] (fun i => ∃ k : Nat, k ≤ sp.length ∧ i = .int .i64 ((2 * k : Nat) : Int) ∧ Hid (inAny c (sp.take k) = false)) (fun i => 2 * sp.length - (intOf i).toNat)
  case atStart => exact ⟨0, Nat.zero_le _, rfl, rfl⟩
  case round =>
    obtain ⟨k, hk, rfl, HF⟩ := hrel
    by_cases hlt : k < sp.length
    · have hc0 : W.cell? ⟨g, 2 * k, none⟩ = some (.int .i64 (spAt sp k).1) := by rw [Nat.mul_comm, cell_of_row W g (k * 2) _ T (0, 0) HG.out, List.getElem?_toArray]; exact (flatSp_at sp k hlt).1
      have hc1 : W.cell? ⟨g, 2 * k + 1, none⟩ = some (.int .i64 (spAt sp k).2) := by rw [Nat.mul_comm, cell_of_row W g (k * 2 + 1) _ T (0, 0) HG.out, List.getElem?_toArray]; exact (flatSp_at sp k hlt).2
      have HT := Lib.hid (inAny_take c sp k hlt)
      have HO := Lib.hid (inAny_of c sp k hlt)
      generalize (spAt sp k).1 = a at hc0 HT HO
      generalize (spAt sp k).2 = b at hc1 HT HO
      by_cases h1 : a ≤ c
      · by_cases h2 : c ≤ b
        · go_wp2
          go_ret
          exact ⟨ret_bool (HO.out h1 h2).symm, rfl⟩
        · go_wp2
          go_round
          case rel =>
            refine ⟨k + 1, by omega, by go_num, ?_⟩
            show _ = _
            rw [HT.out, HF.out, decide_eq_false h2]; simp
          case measure => simp [intOf]; omega
      · go_wp2
        go_round
        case rel =>
          refine ⟨k + 1, by omega, by go_num, ?_⟩
          show _ = _
          rw [HT.out, HF.out, decide_eq_false h1]; simp
        case measure => simp [intOf]; omega
    · go_wp2
      go_ret
      refine ⟨ret_bool ?_, rfl⟩
      have := HF.out
      rw [List.take_of_length_le (by omega)] at this
      exact this.symm

theorem small_near (c : Int) (w : World) (h : NearP c) : Calls Tryd.prog 44 #[.int .i64 c] w fun e w' => e = .returned (.tuple #[.int .i64 (c - 32), .bool true]) ∧ w = w' := by
  unfold NearP at h
  have hp : (97 ≤ c ∧ c ≤ 122) ∨ (224 ≤ c ∧ c ≤ 246) ∨ (248 ≤ c ∧ c ≤ 254) ∨ (945 ≤ c ∧ c ≤ 961) ∨ (963 ≤ c ∧ c ≤ 969) ∨ (1072 ≤ c ∧ c ≤ 1103) := by omega
  clear h
  rcases hp with h | h | h | h | h | h
  · obtain ⟨h1, h2⟩ := h
    go_enter Tryd.func44, Tryd.ntmps44
    go_wp2
    go_ret2
    exact ⟨rfl, rfl⟩
  · obtain ⟨h1, h2⟩ := h
    have n1 : (c != 247) = true := by rw [bne_iff_ne]; omega
    go_enter Tryd.func44, Tryd.ntmps44
    go_wp2
    go_ret2
    exact ⟨rfl, rfl⟩
  · obtain ⟨h1, h2⟩ := h
    have n1 : (c != 247) = true := by rw [bne_iff_ne]; omega
    go_enter Tryd.func44, Tryd.ntmps44
    go_wp2
    go_ret2
    exact ⟨rfl, rfl⟩
  · obtain ⟨h1, h2⟩ := h
    have n2 : (c != 962) = true := by rw [bne_iff_ne]; omega
    have n3 : (c == 962) = false := beq_eq_false_iff_ne.2 (by omega)
    go_enter Tryd.func44, Tryd.ntmps44
    go_wp2
    go_ret2
    exact ⟨rfl, rfl⟩
  · obtain ⟨h1, h2⟩ := h
    have n2 : (c != 962) = true := by rw [bne_iff_ne]; omega
    have n3 : (c == 962) = false := beq_eq_false_iff_ne.2 (by omega)
    go_enter Tryd.func44, Tryd.ntmps44
    go_wp2
    go_ret2
    exact ⟨rfl, rfl⟩
  · obtain ⟨h1, h2⟩ := h
    go_enter Tryd.func44, Tryd.ntmps44
    go_wp2
    go_ret2
    exact ⟨rfl, rfl⟩

theorem small_mid (c : Int) (w : World) (h : 1104 ≤ c ∧ c ≤ 1119) : Calls Tryd.prog 44 #[.int .i64 c] w fun e w' => e = .returned (.tuple #[.int .i64 (c - 80), .bool true]) ∧ w = w' := by
  have hp : (1104 ≤ c ∧ c ≤ 1119) := by omega
  clear h
  have h := hp
  clear hp
  · obtain ⟨h1, h2⟩ := h
    go_enter Tryd.func44, Tryd.ntmps44
    go_wp2
    go_ret2
    exact ⟨rfl, rfl⟩

theorem small_last (w : World) : Calls Tryd.prog 44 #[.int .i64 962] w fun e w' => e = .returned (.tuple #[.int .i64 931, .bool true]) ∧ w = w' := by
  go_enter Tryd.func44, Tryd.ntmps44
  go_wp2
  go_ret2
  exact ⟨rfl, rfl⟩
theorem small_247 (w : World) : Calls Tryd.prog 44 #[.int .i64 247] w fun e w' => e = .returned (.tuple #[.int .i64 247, .bool false]) ∧ w = w' := by
  go_enter Tryd.func44, Tryd.ntmps44
  go_wp2
  go_ret2
  exact ⟨rfl, rfl⟩

theorem small_rest (c : Int) (w : World) (h : ¬ NearP c ∧ ¬ (1104 ≤ c ∧ c ≤ 1119) ∧ c ≠ 962 ∧ c ≠ 247) : Calls Tryd.prog 44 #[.int .i64 c] w fun e w' => e = .returned (.tuple #[.int .i64 (c), .bool false]) ∧ w = w' := by
  unfold NearP at h
  have hp : c < 97 ∨ (123 ≤ c ∧ c ≤ 223) ∨ (255 ≤ c ∧ c ≤ 944) ∨ (970 ≤ c ∧ c ≤ 1071) ∨ 1120 ≤ c := by omega
  clear h
  rcases hp with h | h | h | h | h
  · have n2 : (c != 962) = true := by rw [bne_iff_ne]; omega
    have n3 : (c == 962) = false := beq_eq_false_iff_ne.2 (by omega)
    go_enter Tryd.func44, Tryd.ntmps44
    go_wp2
    go_ret2
    exact ⟨rfl, rfl⟩
  · obtain ⟨h1, h2⟩ := h
    have n2 : (c != 962) = true := by rw [bne_iff_ne]; omega
    have n3 : (c == 962) = false := beq_eq_false_iff_ne.2 (by omega)
    go_enter Tryd.func44, Tryd.ntmps44
    go_wp2
    go_ret2
    exact ⟨rfl, rfl⟩
  · obtain ⟨h1, h2⟩ := h
    have n2 : (c != 962) = true := by rw [bne_iff_ne]; omega
    have n3 : (c == 962) = false := beq_eq_false_iff_ne.2 (by omega)
    go_enter Tryd.func44, Tryd.ntmps44
    go_wp2
    go_ret2
    exact ⟨rfl, rfl⟩
  · obtain ⟨h1, h2⟩ := h
    have n2 : (c != 962) = true := by rw [bne_iff_ne]; omega
    have n3 : (c == 962) = false := beq_eq_false_iff_ne.2 (by omega)
    go_enter Tryd.func44, Tryd.ntmps44
    go_wp2
    go_ret2
    exact ⟨rfl, rfl⟩
  · have n2 : (c != 962) = true := by rw [bne_iff_ne]; omega
    have n3 : (c == 962) = false := beq_eq_false_iff_ne.2 (by omega)
    go_enter Tryd.func44, Tryd.ntmps44
    go_wp2
    go_ret2
    exact ⟨rfl, rfl⟩

/-- small: the upper-case form, and whether it is lower case. -/
def smallB (c : Int) : Bool := nearB c || decide (1104 ≤ c ∧ c ≤ 1119) || decide (c = 962)
theorem small_any (c : Int) (w : World) : Calls Tryd.prog 44 #[.int .i64 c] w fun e w' => e = .returned (.tuple #[.int .i64 (upOf c), .bool (smallB c)]) ∧ w = w' := by
  rcases up_cases c with ⟨k, e⟩ | ⟨k, k', e⟩ | ⟨k, e⟩ | ⟨k, k2, k3, e⟩
  · have hb : smallB c = true := by simp [smallB, (near_iff c).2 k]
    rw [e, hb]; exact small_near c w k
  · have hb : smallB c = true := by simp [smallB, k, k']
    rw [e, hb]; exact small_mid c w ⟨k, k'⟩
  · subst k
    have hb : smallB 962 = true := by decide
    rw [e, hb]; exact small_last w
  · have hn : nearB c = false := by
      cases h : nearB c with
      | false => rfl
      | true => exact absurd ((near_iff c).1 h) k
    have hb : smallB c = false := by simp only [smallB, hn, decide_eq_false k2, decide_eq_false k3]; rfl
    rw [e, hb]
    by_cases h7 : c = 247
    · subst h7; exact small_247 w
    · exact small_rest c w ⟨k, k2, k3, h7⟩
set_option maxHeartbeats 2000000 in
theorem ref_word (c : Int) (w : World) : Calls Tryd.prog 30 #[.int .i64 c] w fun e w' => e = .returned (.bool (inAny c wordT)) ∧ Below w.heap.size w w' := by
  go_enter Tryd.func30, Tryd.ntmps30
  go_wp2_with fail
  refine (ref_in w.heap.size 3 wordT c _ (heap_alloc_new w _) (by decide)).mono ?_
  rintro e w1 ⟨rfl, rfl⟩
  go_wp2
  go_ret
  exact ⟨rfl, (Below.refl _ _).alloc (Nat.le_refl _) _⟩
theorem ref_up (c : Int) (w : World) : Calls Tryd.prog 24 #[.int .i64 c] w fun e w' => e = .returned (.int .i64 (upOf c)) ∧ w = w' := by
  have S := Lib.hid (small_any c w)
  generalize upOf c = u at S ⊢
  go_enter Tryd.func24, Tryd.ntmps24
  go_wp2_with (go_at_call 44; refine S.out.mono ?_; rintro e w' ⟨rfl, rfl⟩)
  go_ret
  exact ⟨rfl, rfl⟩
set_option maxHeartbeats 1000000 in
theorem ref_down_far (c : Int) (w : World) (h : c < 0 ∨ 1114111 < c) : Calls Tryd.prog 26 #[.int .i64 c] w fun e w' => e = .returned (.int .i64 c) ∧ Below w.heap.size w w' := by
  by_cases h1 : c < 0
  · clear h
    go_enter Tryd.func26, Tryd.ntmps26
    go_wp2
    go_ret
    exact ⟨rfl, (Below.refl _ _).alloc (Nat.le_refl _) _⟩
  · have h2 : 1114111 < c := by omega
    clear h
    go_enter Tryd.func26, Tryd.ntmps26
    go_wp2
    go_ret
    exact ⟨rfl, (Below.refl _ _).alloc (Nat.le_refl _) _⟩
set_option maxHeartbeats 1000000 in
theorem ref_down_near (c : Int) (w : World) (h1 : 0 ≤ c) (h2 : c ≤ 1114111) (hn : NearP (c + 32)) : Calls Tryd.prog 26 #[.int .i64 c] w fun e w' => e = .returned (.int .i64 (c + 32)) ∧ Below w.heap.size w w' := by
  have S := Lib.hid (fun w' => small_near (c + 32) w' hn)
  rw [show c + 32 - 32 = c by omega] at S
  clear hn
  go_enter Tryd.func26, Tryd.ntmps26
  go_wp2
  refine wp_loop_rounds 1 ?_
  rw [rounds_succ]
  go_wp2_with (go_at_call 44; refine (S.out _).mono ?_; rintro e w' ⟨rfl, rfl⟩)
  go_ret
  exact ⟨rfl, (Below.refl _ _).alloc (Nat.le_refl _) _⟩
set_option maxHeartbeats 2000000 in
theorem ref_down_other (c d : Int) (b1 b2 : Bool) (g1 g2 : Int) (w : World) (h1 : 0 ≤ c) (h2 : c ≤ 1114111)
    (S1 : Hid (∀ w', Calls Tryd.prog 44 #[.int .i64 (c + 32)] w' fun e w'' => e = .returned (.tuple #[.int .i64 g1, .bool b1]) ∧ w' = w''))
    (S2 : Hid (∀ w', Calls Tryd.prog 44 #[.int .i64 (c + 80)] w' fun e w'' => e = .returned (.tuple #[.int .i64 g2, .bool b2]) ∧ w' = w''))
    (n1 : b1 = false ∨ (b1 = true ∧ (g1 == c) = false)) (n2 : (b2 = false ∧ d = c) ∨ (b2 = true ∧ (g2 == c) = false ∧ d = c) ∨ (b2 = true ∧ g2 = c ∧ d = c + 80)) :
    Calls Tryd.prog 26 #[.int .i64 c] w fun e w' => e = .returned (.int .i64 d) ∧ Below w.heap.size w w' := by
  rcases n1 with rfl | ⟨rfl, e1⟩ <;> rcases n2 with ⟨rfl, rfl⟩ | ⟨rfl, e2, rfl⟩ | ⟨rfl, rfl, rfl⟩
  all_goals
    go_enter Tryd.func26, Tryd.ntmps26
    go_wp2
    refine wp_loop_rounds 3 ?_
    rw [rounds_succ]
    go_wp2_with fail
    refine (S1.out _).mono ?_
    rintro e w' ⟨rfl, rfl⟩
    go_wp2_with fail
    rw [rounds_succ]
    go_wp2_with fail
    refine (S2.out _).mono ?_
    rintro e w' ⟨rfl, rfl⟩
    go_wp2_with fail
  all_goals try (
    go_ret
    exact ⟨rfl, (Below.refl _ _).alloc (Nat.le_refl _) _⟩)
  all_goals
    rw [rounds_succ]
    go_wp2
    go_ret
    exact ⟨rfl, (Below.refl _ _).alloc (Nat.le_refl _) _⟩
theorem ref_down (c : Int) (w : World) : Calls Tryd.prog 26 #[.int .i64 c] w fun e w' => e = .returned (.int .i64 (downOf c)) ∧ Below w.heap.size w w' := by
  by_cases h : c < 0 ∨ 1114111 < c
  · have e : downOf c = c := by
      rcases down_cases c with ⟨k, _⟩ | ⟨k, _, _⟩ | ⟨_, _, e⟩
      · unfold NearP at k; omega
      · omega
      · exact e
    rw [e]; exact ref_down_far c w h
  · have h1 : 0 ≤ c := by omega
    have h2 : c ≤ 1114111 := by omega
    have s1 : ¬ NearP (c + 32) → smallB (c + 32) = false ∨ (smallB (c + 32) = true ∧ (upOf (c + 32) == c) = false) := fun hn => by
      cases hb : smallB (c + 32) with
      | false => exact .inl rfl
      | true =>
        refine .inr ⟨rfl, beq_eq_false_iff_ne.2 ?_⟩
        rcases up_cases (c + 32) with ⟨k, _⟩ | ⟨_, _, e⟩ | ⟨k, e⟩ | ⟨k1, k2, k3, _⟩
        · exact absurd k hn
        · omega
        · omega
        · exfalso
          have n1 : nearB (c + 32) = false := by cases h : nearB (c + 32) with | false => rfl | true => exact absurd ((near_iff _).1 h) k1
          simp only [smallB, n1, decide_eq_false k2, decide_eq_false k3] at hb
          cases hb
    rcases down_cases c with ⟨k, e⟩ | ⟨k, k', e⟩ | ⟨k, k2, e⟩
    · rw [e]; exact ref_down_near c w h1 h2 k
    · have hn : ¬ NearP (c + 32) := by unfold NearP; omega
      refine ref_down_other c (downOf c) _ _ _ _ w h1 h2 (Lib.hid (fun w' => small_any (c + 32) w')) (Lib.hid (fun w' => small_any (c + 80) w')) (s1 hn) (.inr (.inr ⟨?_, ?_, e⟩))
      · simp only [smallB, decide_eq_true (show 1104 ≤ c + 80 ∧ c + 80 ≤ 1119 by omega)]; simp
      · rcases up_cases (c + 80) with ⟨q, _⟩ | ⟨_, _, e⟩ | ⟨q, _⟩ | ⟨_, q, _, _⟩
        · unfold NearP at q; omega
        · omega
        · omega
        · omega
    · refine ref_down_other c (downOf c) _ _ _ _ w h1 h2 (Lib.hid (fun w' => small_any (c + 32) w')) (Lib.hid (fun w' => small_any (c + 80) w')) (s1 k) ?_
      cases hb : smallB (c + 80) with
      | false => exact .inl ⟨rfl, e⟩
      | true =>
        refine .inr (.inl ⟨rfl, beq_eq_false_iff_ne.2 ?_, e⟩)
        rcases up_cases (c + 80) with ⟨_, q⟩ | ⟨q1, q2, _⟩ | ⟨q, q'⟩ | ⟨k1, k2', k3, _⟩
        · omega
        · omega
        · omega
        · exfalso
          have n1 : nearB (c + 80) = false := by cases h : nearB (c + 80) with | false => rfl | true => exact absurd ((near_iff _).1 h) k1
          simp only [smallB, n1, decide_eq_false k2', decide_eq_false k3] at hb
          cases hb
theorem ref_fold (c : Int) (w : World) : Calls Tryd.prog 28 #[.int .i64 c] w fun e w' => e = .returned (.int .i64 (foldOf c)) ∧ Below w.heap.size w w' := by
  have C := Lib.hid (ref_up c w)
  have D := Lib.hid (ref_down (upOf c) w)
  unfold foldOf
  generalize upOf c = u at C D ⊢
  generalize downOf u = d at D ⊢
  go_enter Tryd.func28, Tryd.ntmps28
  go_wp2_with (first
    | (go_at_call 24; refine C.out.mono ?_; rintro e w1 ⟨rfl, rfl⟩)
    | (go_at_call 26; refine D.out.mono ?_; rintro e w2 ⟨rfl, hb2⟩))
  go_ret
  exact ⟨rfl, hb2⟩
set_option maxHeartbeats 2000000 in
theorem ref_width (c : Int) (w : World) : Calls Tryd.prog 22 #[.int .i64 c] w fun e w' => e = .returned (.int .i64 (widthOf c)) ∧ Below w.heap.size w w' := by
  have IS := Lib.hid (fun w' => ref_is c w')
  go_enter Tryd.func22, Tryd.ntmps22
  go_wp2_with fail
  refine (IS.out _).mono ?_
  cases h : chB c with
  | false =>
    have HW := Lib.hid (width_no h)
    clear h
    rintro e w' ⟨rfl, rfl⟩
    go_wp2
    go_ret
    exact ⟨by rw [HW.out]; rfl, ((Below.refl _ _).alloc (Nat.le_refl _) _).alloc (by simp) _⟩
  | true =>
    rintro e w' ⟨rfl, rfl⟩
    go_wp2_with fail
    refine (ref_in w.heap.size 3 zeroT c _ ((Below.heap_alloc _ _ _ (by simp)).trans (heap_alloc_new w _)) (by decide)).mono ?_
    cases h1 : inAny c zeroT with
    | true =>
      have HW := Lib.hid (width_zero h h1)
      clear h h1
      rintro e w' ⟨rfl, rfl⟩
      go_wp2
      go_ret
      exact ⟨by rw [HW.out]; rfl, ((Below.refl _ _).alloc (Nat.le_refl _) _).alloc (by simp) _⟩
    | false =>
      rintro e w' ⟨rfl, rfl⟩
      go_wp2_with fail
      refine (ref_in (w.heap.size + 1) 3 twoT c _ (alloc_at _ (by simp) _) (by decide)).mono ?_
      cases h2 : inAny c twoT with
      | true =>
        have HW := Lib.hid (width_two h h1 h2)
        clear h h1 h2
        rintro e w' ⟨rfl, rfl⟩
        go_wp2
        go_ret
        exact ⟨by rw [HW.out]; rfl, ((Below.refl _ _).alloc (Nat.le_refl _) _).alloc (by simp) _⟩
      | false =>
        have HW := Lib.hid (width_one h h1 h2)
        clear h h1 h2
        rintro e w' ⟨rfl, rfl⟩
        go_wp2
        go_ret
        exact ⟨by rw [HW.out]; rfl, ((Below.refl _ _).alloc (Nat.le_refl _) _).alloc (by simp) _⟩
end Go.Proofs.YtbfldnppfenbgaaDoor
