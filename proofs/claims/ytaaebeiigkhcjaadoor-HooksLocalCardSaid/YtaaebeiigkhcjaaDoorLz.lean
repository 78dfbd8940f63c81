/-
  copyistkit.Own and copyistkit.Same of words in the second memory. Conditions: none.
-/
import Derived.Test.YtaaebeiigkhcjaaDoorLy
namespace Go.Proofs.YtaaebeiigkhcjaaDoor
set_option maxRecDepth 100000
/-- A slice of words as it reads. -/
structure Vw (σ : Mem) (v : Value) (l : List Wd) : Prop where
  len : lenF Tryd.prog 37 v = some (.int .i64 l.length)
  at_ : SlW σ v l
theorem Vw.old {σ σ' : Mem} {v : Value} {l : List Wd} (h : Vw σ v l) (k : ∀ b y, σ.get b = some y → σ'.get b = some y) : Vw σ' v l := ⟨h.len, slw_old h.at_ k⟩
/-- A law's slice of words: what append reads of it besides. -/
structure AW (G : Nat) (σ : Mem) (v : Value) (l : List Wd) : Prop where
  vw : Vw σ v l
  one : v.cells.toList = [v]
  src : srcF σ 2 v = some (l.length, wdC l)
/-- A slice that Own has made, and what append makes of it. -/
inductive OwnW (G : Nat) (σ : Mem) : Value → List Wd → Prop
  | emp {b : Nat} {g : Bool} (hb : G ≤ b) (hr : σ.get b = some (.row ⟨[], 28, g⟩)) : OwnW G σ (.slice (some ⟨b, 0, none⟩) 0 0) []
  | row {v : Value} {l : List Wd} (h0 : 0 < l.length) (h : GRow G σ 28 2 v l.length (wdC l)) : OwnW G σ v l
section
variable {G h : Nat} {m : HM} {σ σ0 : Mem}
theorem OwnW.vw {v : Value} {l : List Wd} (h : OwnW G σ v l) : Vw σ v l := by
  cases h with
  | emp hb hr => exact ⟨by kernel_rfl, fun h => absurd h (by simp)⟩
  | row h0 h => exact ⟨h.len (by kernel_rfl), fun _ => h.sl⟩
theorem own_append {v x : Value} {l l2 : List Wd} (h : OwnW G σ v l) (hx : srcF σ 2 x = some (l2.length, wdC l2)) (hG : G ≤ σ.next) (hb : l.length + l2.length ≤ 1000000) :
    ∃ v' cmd, appendF G Tryd.prog σ 37 37 v x = some (v', cmd) ∧ OwnW G (cmd.app σ) v' (l ++ l2) ∧ σ.next ≤ (cmd.app σ).next ∧ (cmd.app σ).abs = σ.abs ∧ (∀ b y, σ.get b = some y → blkOf v ≠ some b → (cmd.app σ).get b = some y) ∧ (blkOf v' = blkOf v ∨ blkOf v' = some σ.next) := by
  obtain ⟨i, z, h1, h2, h3, h4, h5⟩ := infoB_ok (P := Tryd.prog) (e := 28) (s := 2) (m := 64) (by kernel_rfl)
  have ht : uT Tryd.prog 37 = some (.slice 28) := by kernel_rfl
  have hsrc : srcG (.slice 28) i z σ x = some (l2.length, wdC l2) := by
    show srcF σ i.size x = _
    rw [h4]; exact hx
  have hcond : z.cells.size = i.size ∧ 0 < i.size := ⟨h3, by omega⟩
  by_cases hn : l2.length = 0
  · obtain rfl : l2 = [] := List.length_eq_zero_iff.1 hn
    refine ⟨v, .same, ?_, by rw [List.append_nil]; exact h, Nat.le_refl _, rfl, fun _ _ h _ => h, .inl rfl⟩
    unfold appendF
    simp only [ht, h1, h2, hcond, hsrc, and_self, if_true, List.length_nil]
    cases h with
    | emp hb hr => rfl
    | row h0 h =>
      obtain ⟨q, c, r, rfl, _, _, _, _, hl, _⟩ := gr_row h h0
      simp [hl]
  · cases h with
    | @emp b g hb0 hr =>
      refine ⟨.slice (some ⟨σ.next, 0, some 2⟩) (0 + l2.length) (0 + l2.length), .push (.row ⟨(([] : List Value).drop 0).take (0 * 2) ++ wdC l2, 28, true⟩), ?_, ?_, Nat.le_succ _, rfl, fun b y hy _ => get_push_old hy, .inr rfl⟩
      · unfold appendF
        have hmul : l2.length * i.bytes ≤ 1000000 * 64 := Nat.mul_le_mul (by simpa using hb) h5
        simp only [ht, h1, h2, hcond, hsrc, and_self, if_true, if_neg hn, hr]
        rw [if_neg (by omega), if_pos (by rw [h4]; simp; simp at hb; omega), h4]
      · simp only [List.nil_append, Nat.zero_add, Nat.zero_mul, List.take_zero, List.drop_zero]
        refine .row (by omega) (.row (by omega) get_push rfl (wdC_length l2) (Nat.le_refl _) ?_)
        show (wdC l2).take _ = _
        rw [← wdC_length l2, List.take_length]
    | row h0 h =>
      have hmul : (l.length + l2.length) * i.bytes ≤ 1000000 * 64 := Nat.mul_le_mul hb h5
      obtain ⟨v', cmd, k1, k2, k3, k4, k5, k6⟩ := grow_append (P := Tryd.prog) h hG ht ht h1 h2 h3 h4 (by decide) hsrc (by omega) (List.all_eq_true.2 (wdC_one l2)) ⟨by omega, by omega⟩
      refine ⟨v', cmd, k1, .row (by rw [List.length_append]; omega) ?_, k3, k4, k5, k6⟩
      rw [List.length_append, show wdC (l ++ l2) = wdC l ++ wdC l2 by simp [wdC]]
      exact k2
set_option maxHeartbeats 1000000 in
theorem same_wc {v1 v2 : Value} {l1 l2 : List Wd} (hG : G ≤ σ0.next) (a1 : Vw σ0 v1 l1) (a2 : Vw σ0 v2 l2) (hb : l1.length ≤ 1000000) :
    WC G Tryd.prog 17 #[v1, v2] σ0 fun r σ' => r = .bool (decide (l1 = l2)) ∧ σ' = σ0 := by
  refine WC.enter (fn := Tryd.f17) Tryd.func17 rfl ?_
  refine W.know 0 (x := v1) rfl (W.know 1 (x := v2) rfl ?_)
  refine W.seq ?_
  refine W.region ?_
  refine RW.val (by kernel_rfl) (by kernel_rfl) rfl (by kernel_rfl) ?_
  refine RW.nil ?_
  refine W.seq ?_
  refine W.seq ?_
  refine W.region ?_
  refine RW.val (by kernel_rfl) (by kernel_rfl) rfl (by kernel_rfl) ?_
  refine RW.len (by kernel_rfl) (by kernel_rfl) rfl rfl rfl rfl a1.len (by kernel_rfl) ?_
  refine RW.val (by kernel_rfl) (by kernel_rfl) rfl (by kernel_rfl) ?_
  refine RW.len (by kernel_rfl) (by kernel_rfl) rfl rfl rfl rfl a2.len (by kernel_rfl) ?_
  refine RW.val (by kernel_rfl) (by kernel_rfl) rfl (by kernel_rfl) ?_
  refine RW.nil ?_
  refine W.cond rfl (fun hh => ?_) (fun hh => ?_)
  · have hne : l1.length ≠ l2.length := by have := bne_iff_ne.1 (show ((l1.length : Int) != (l2.length : Int)) = true from hh); omega
    refine W.seq ?_
    refine W.region ?_
    refine RW.val (by kernel_rfl) (by kernel_rfl) rfl (by kernel_rfl) ?_
    refine RW.nil ?_
    refine W.ret ?_
    have E : Value.bool false = .bool (decide (l1 = l2)) := by rw [decide_eq_false (fun e => hne (by rw [e]))]
    exact endG (R := fun r σ' => r = .bool (decide (l1 = l2)) ∧ σ' = σ0) rfl (resL_tmp rfl) ⟨E, rfl⟩
  have heq : l1.length = l2.length := by have := bne_eq_false_iff_eq.1 (show ((l1.length : Int) != (l2.length : Int)) = false from hh); omega
  clear hh
  refine W.skip ?_
  refine W.seq ?_
  refine W.seq ?_
  refine W.region ?_
  refine RW.val (by kernel_rfl) (by kernel_rfl) rfl (by kernel_rfl) ?_
  refine RW.nil ?_
  refine W.block ?_
  refine W.loop (fun mm ta σ => ∃ k : Nat, mm + k = l1.length ∧ σ = σ0 ∧ (∀ i, i < k → l1[i]? = l2[i]?) ∧ ta 0 = v1 ∧ ta 1 = v2 ∧ ta 5 = .int .i64 (k : Int)) l1.length ?_ ?_
  · exact ⟨0, rfl, rfl, fun i h => absurd h (by omega), rfl, rfl, rfl⟩
  rintro mm ta σ ⟨k, hm, hσ, hk, e0, e1, e5⟩
  obtain rfl := hσ.symm
  refine W.know 0 e0 (W.know 1 e1 (W.know 5 e5 (?_)))
  refine W.seq ?_
  refine W.seq ?_
  refine W.region ?_
  refine RW.val (by kernel_rfl) (by kernel_rfl) rfl (by kernel_rfl) ?_
  refine RW.val (by kernel_rfl) (by kernel_rfl) rfl (by kernel_rfl) ?_
  refine RW.len (by kernel_rfl) (by kernel_rfl) rfl rfl rfl rfl a1.len (by kernel_rfl) ?_
  refine RW.val (by kernel_rfl) (by kernel_rfl) rfl (by kernel_rfl) ?_
  refine RW.nil ?_
  refine W.cond rfl (fun hh => ?_) (fun hh => ?_)
  · have hkn : k < l1.length := by have := of_decide_eq_true hh; omega
    obtain ⟨b, p, sp, c, r, rfl, hr, hc⟩ := sl_at (a1.at_ (by omega)) (j := k) hkn
    obtain ⟨b', p', sp', c', r', rfl, hr', hc'⟩ := sl_at (a2.at_ (by omega)) (j := k) (by omega)
    refine W.skip ?_
    refine W.seq ?_
    refine W.block ?_
    refine W.seq ?_
    refine W.drawnS (by kernel_rfl) (by kernel_rfl) hG ?_
    refine RW.val (by kernel_rfl) (by kernel_rfl) rfl (by kernel_rfl) ?_
    refine RW.val (by kernel_rfl) (by kernel_rfl) rfl (by kernel_rfl) ?_
    refine RW.idx (s := 2) (by kernel_rfl) (by kernel_rfl) rfl Tryd.underlying37 (by kernel_rfl) rfl rfl ⟨by omega, by omega⟩ (by kernel_rfl) ?_
    refine RW.loads 2 (by kernel_rfl) (by kernel_rfl) rfl rfl hr hc rfl (by kernel_rfl) ?_
    refine RW.val (by kernel_rfl) (by kernel_rfl) rfl (by kernel_rfl) ?_
    refine RW.val (by kernel_rfl) (by kernel_rfl) rfl (by kernel_rfl) ?_
    refine RW.idx (s := 2) (by kernel_rfl) (by kernel_rfl) rfl Tryd.underlying37 (by kernel_rfl) rfl rfl ⟨by omega, by omega⟩ (by kernel_rfl) ?_
    refine RW.loads 2 (by kernel_rfl) (by kernel_rfl) rfl rfl hr' hc' rfl (by kernel_rfl) ?_
    refine RW.vop (v := .bool (!decide (l1.getD k (0, 0) = l2.getD k (0, 0)))) (by kernel_rfl) (by kernel_rfl) (vop_eqS (b := decide (l1.getD k (0, 0) = l2.getD k (0, 0))) (r := !decide (l1.getD k (0, 0) = l2.getD k (0, 0))) rfl (.inr ⟨rfl, rfl⟩) rfl rfl rfl rfl (by kernel_rfl) (fun w => (eqWd _ _ _ _ w).trans (by simp [Prod.ext_iff, Bool.beq_eq_decide_eq]))) (by kernel_rfl) ?_
    refine RW.nil ?_
    refine ⟨⟨by kernel_rfl, ?_, fun b => rfl⟩, ?_⟩
    · repeat' (first | exact True.intro | exact fun _ => rfl | exact ⟨_, hr⟩ | exact ⟨_, hr'⟩ | refine And.intro ?_ ?_)
    by_cases hq : l1.getD k (0, 0) = l2.getD k (0, 0)
    · refine W.cond (b := false) (by rw [decide_eq_true hq]; rfl) (fun h => by cases h) (fun _ => ?_)
      refine W.skip ?_
      refine W.region ?_
      refine RW.val (by kernel_rfl) (by kernel_rfl) rfl (by kernel_rfl) ?_
      refine RW.valE (by kernel_rfl) (by kernel_rfl) rfl (congrArg (Value.int .i64) (wrap_in (by omega) (by omega))) (by kernel_rfl) ?_
      refine RW.val (by kernel_rfl) (by kernel_rfl) rfl (by kernel_rfl) ?_
      refine RW.nil ?_
      refine ⟨rfl, mm - 1, by omega, k + 1, by omega, rfl, fun i hi => ?_, rfl, rfl, rfl⟩
      rcases Nat.lt_or_ge i k with h1 | h1
      · exact hk i h1
      · obtain rfl : i = k := by omega
        rw [getD_at hkn, getD_at (by omega), hq]
    · refine W.cond (b := true) (by rw [decide_eq_false hq]; rfl) (fun _ => ?_) (fun h => by cases h)
      refine W.seq ?_
      refine W.region ?_
      refine RW.val (by kernel_rfl) (by kernel_rfl) rfl (by kernel_rfl) ?_
      refine RW.nil ?_
      refine W.ret ?_
      have E : Value.bool false = .bool (decide (l1 = l2)) := by rw [decide_eq_false (fun e => hq (by rw [e]))]
      exact endG (R := fun r σ' => r = .bool (decide (l1 = l2)) ∧ σ' = σ0) rfl (resL_tmp rfl) ⟨E, rfl⟩
  · have hkn : k = l1.length := by have := of_decide_eq_false hh; omega
    refine W.exit _ ?_
    refine W.seq ?_
    refine W.region ?_
    refine RW.val (by kernel_rfl) (by kernel_rfl) rfl (by kernel_rfl) ?_
    refine RW.nil ?_
    refine W.ret ?_
    have E : Value.bool true = .bool (decide (l1 = l2)) := by
      rw [decide_eq_true]
      apply List.ext_getElem?
      intro i
      rcases Nat.lt_or_ge i k with h1 | h1
      · exact hk i h1
      · rw [List.getElem?_eq_none (by omega), List.getElem?_eq_none (by omega)]
    exact endG (R := fun r σ' => r = .bool (decide (l1 = l2)) ∧ σ' = σ0) rfl (resL_tmp rfl) ⟨E, rfl⟩
end
end Go.Proofs.YtaaebeiigkhcjaaDoor
