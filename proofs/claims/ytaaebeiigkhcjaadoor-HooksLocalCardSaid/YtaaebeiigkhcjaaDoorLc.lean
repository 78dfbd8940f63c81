/-
  Lists of conses as chains: what build leaves, what stays, what the functions of package lists answer. Conditions: the heap lies there as HeapAt says, no number is free below.
-/
import Derived.Test.YtaaebeiigkhcjaaDoorLz
namespace Go.Proofs.YtaaebeiigkhcjaaDoor
set_option maxRecDepth 100000
/-- From c 0 on lie conses with the words of l; behind them Nil. -/
def Chain (m : HM) (c : Nat → Wd) (l : List Wd) : Prop := c l.length = (1, 0) ∧ Path m c (fun j => l.getD j (0, 0)) l.length
def FindsAll (m m' : HM) : Prop := ∀ x o, m.find x = some o → m'.find x = some o
theorem FindsAll.trans {m m1 m2 : HM} (h : FindsAll m m1) (k : FindsAll m1 m2) : FindsAll m m2 := fun x o e => k x o (h x o e)
theorem finds_built (m : HM) (l : List Wd) (t : Wd) : FindsAll m (built m l t).1 := fun x o h => by
  obtain ⟨h0, h1, h2⟩ := HM.find_mem h
  have hx : x = (o.kind, ((x.2.toNat : Nat) : Int)) := Prod.ext h2.symm (by show x.2 = _; omega)
  unfold built
  rw [(bld_is m l t l.length).1]
  have hlt : x.2.toNat < m.objs.length := (List.getElem?_eq_some_iff.1 h1).1
  have h3 : (m.objs ++ (List.range l.length).map fun i => some (HObj.pair (l.getD (l.length - 1 - i) (0, 0)) (if i = 0 then t else (2, ((m.objs.length + i - 1 : Nat) : Int)))))[x.2.toNat]? = some (some o) := by
    rw [List.getElem?_append_left hlt]; exact h1
  unfold HM.find
  have h4 : ¬ x.2 < 0 := by omega
  rw [if_neg h4]
  simp only [h3]
  rw [if_pos h2]
theorem Path.mono {m m' : HM} {c a : Nat → Wd} {n : Nat} (h : Path m c a n) (k : FindsAll m m') : Path m' c a n := fun j hj => k _ _ (h j hj)
theorem Chain.mono {m m' : HM} {c : Nat → Wd} {l : List Wd} (h : Chain m c l) (k : FindsAll m m') : Chain m' c l := ⟨h.1, h.2.mono k⟩
theorem chain_built (m : HM) (l : List Wd) : Chain (built m l (1, 0)).1 (consOf m l (1, 0)) l := ⟨built_end m l (1, 0), built_path m l (1, 0)⟩
/-- The chain of l built on another chain. -/
def consOn (m : HM) (l : List Wd) (t : Wd) (c2 : Nat → Wd) (j : Nat) : Wd := if j < l.length then consOf m l t j else c2 (j - l.length)
theorem consOn_mid (m : HM) (l : List Wd) (t : Wd) (c2 : Nat → Wd) : consOn m l t c2 l.length = c2 0 := by unfold consOn; rw [if_neg (by omega), Nat.sub_self]
theorem consOn_zero (m : HM) (l : List Wd) (c2 : Nat → Wd) : consOn m l (c2 0) c2 0 = (built m l (c2 0)).2 := by
  rw [built_word]
  unfold consOn
  by_cases h : 0 < l.length
  · rw [if_pos h]
  · rw [if_neg h]
    unfold consOf
    rw [if_neg h, Nat.zero_sub]
theorem getD_left {l l2 : List Wd} {j : Nat} (h : j < l.length) : (l ++ l2).getD j (0, 0) = l.getD j (0, 0) := by
  rw [List.getD_eq_getElem?_getD, List.getD_eq_getElem?_getD, List.getElem?_append_left h]
theorem getD_right {l l2 : List Wd} {j : Nat} (h : l.length ≤ j) : (l ++ l2).getD j (0, 0) = l2.getD (j - l.length) (0, 0) := by
  rw [List.getD_eq_getElem?_getD, List.getD_eq_getElem?_getD, List.getElem?_append_right h]
theorem chain_on {m : HM} {c2 : Nat → Wd} {l2 : List Wd} (l : List Wd) (h : Chain m c2 l2) : Chain (built m l (c2 0)).1 (consOn m l (c2 0) c2) (l ++ l2) := by
  refine ⟨?_, fun j hj => ?_⟩
  · unfold consOn
    rw [List.length_append, if_neg (by omega), show l.length + l2.length - l.length = l2.length by omega]
    exact h.1
  · rw [List.length_append] at hj
    show HM.find _ _ = some (.pair ((l ++ l2).getD j (0, 0)) _)
    rcases Nat.lt_or_ge j l.length with h1 | h1
    · rw [getD_left h1]
      have := built_path m l (c2 0) j h1
      unfold consOn
      rw [if_pos h1, this]
      congr 2
      by_cases h2 : j + 1 < l.length
      · rw [if_pos h2]
      · rw [if_neg h2, show j + 1 = l.length by omega, built_end, Nat.sub_self]
    · rw [getD_right h1]
      have := finds_built m l (c2 0) _ _ (h.2 (j - l.length) (by omega))
      unfold consOn
      rw [if_neg (by omega), if_neg (by omega), this, show j + 1 - l.length = j - l.length + 1 by omega]
theorem Chain.drop {m : HM} {c : Nat → Wd} {l : List Wd} (h : Chain m c l) {k : Nat} (hk : k ≤ l.length) : Chain m (fun j => c (k + j)) (l.drop k) := by
  refine ⟨?_, fun j hj => ?_⟩
  · show c (k + _) = _
    rw [List.length_drop, show k + (l.length - k) = l.length by omega]; exact h.1
  · rw [List.length_drop] at hj
    have := h.2 (k + j) (by omega)
    show m.find (c (k + j)) = some (.pair ((l.drop k).getD j (0, 0)) (c (k + j + 1)))
    rw [show (l.drop k).getD j (0, 0) = l.getD (k + j) (0, 0) by simp [List.getD_eq_getElem?_getD]]
    exact this
theorem wdC_app (a b : List Wd) : wdC (a ++ b) = wdC a ++ wdC b := by simp [wdC]
theorem firstN_getD (l : List Wd) : firstN (fun j => l.getD j (0, 0)) l.length = l := by
  apply List.ext_getElem?
  intro i
  rcases Nat.lt_or_ge i l.length with h | h
  · rw [getD_at h]
    simp [firstN, h]
  · rw [List.getElem?_eq_none (by rw [firstN_length]; exact h), List.getElem?_eq_none h]
theorem built_many (m : HM) (l : List Wd) (t : Wd) : (built m l t).1.many = m.many + l.length := bld_many l t l.length
theorem built_limit (m : HM) (l : List Wd) (t : Wd) : (built m l t).1.limit = m.limit := bld_limit l t l.length
theorem built_free (m : HM) (l : List Wd) (t : Wd) : (built m l t).1.free = m.free := bld_free l t l.length
/-- A new heap of the limit L. -/
abbrev hm0 (L : Nat) : HM := ⟨L, [], []⟩
theorem hm0_many (L : Nat) : (hm0 L).many = 0 := rfl
theorem grow_old {G : Nat} {σ σ' : Mem} {e : TypeId} {s n : Nat} {v : Value} {xs : List Value} (h : GRow G σ e s v n xs) (k : ∀ b y, σ.get b = some y → σ'.get b = some y) : GRow G σ' e s v n xs := by
  cases h with
  | nil => exact .nil
  | row hq hr ht hc hl hx => exact .row hq (k _ _ hr) ht hc hl hx
theorem grow_vw {G : Nat} {σ : Mem} {v : Value} {l : List Wd} (h : GRow G σ 28 2 v l.length (wdC l)) : Vw σ v l := ⟨h.len (by kernel_rfl), fun _ => h.sl⟩
theorem srcF_old {σ σ' : Mem} {s : Nat} {v : Value} {n : Nat} {xs : List Value} (h : srcF σ s v = some (n, xs)) (k : ∀ b y, σ.get b = some y → σ'.get b = some y) : srcF σ' s v = some (n, xs) := by
  unfold srcF at h ⊢
  split at h
  · exact h
  · exact h
  · split at h
    · rename_i h0
      rw [if_pos h0]; exact h
    · rename_i h0
      rw [if_neg h0]
      split at h
      · rename_i hr
        rw [k _ _ hr]; exact h
      · cases h
  · exact h
  · cases h
section
variable {G h : Nat} {m : HM} {σ σ0 : Mem}
theorem slice_c {c : Nat → Wd} {l : List Wd} {x : Wd} (hx : c 0 = x) (hG : G ≤ σ0.next) (ha : σ0.abs = heapAbs h m) (hlo : 0 < m.limit) (hp : Chain m c l) (hn : l.length ≤ 65536) :
    WC G Tryd.prog 15 #[pp h, wdV x] σ0 fun v σ' => Grow σ0 σ' ∧ ∃ sl, v = .tuple #[sl, .int .i64 0] ∧ Vw σ' sl l := by
  subst hx
  refine (slice_wc (n := l.length) hG ha hlo hp.2 (.inr ⟨hn, .inl (by rw [hp.1]; decide)⟩)).mono fun v σ' H => ?_
  obtain ⟨g, sl, e, gr, _⟩ := sliceR_ok hn hp.1 H
  rw [firstN_getD] at gr
  exact ⟨g, sl, e, grow_vw gr⟩
theorem same_c {v1 v2 : Value} {l1 l2 : List Wd} (he : l1 = l2) (hG : G ≤ σ0.next) (a1 : Vw σ0 v1 l1) (a2 : Vw σ0 v2 l2) (hb : l1.length ≤ 1000000) :
    WC G Tryd.prog 17 #[v1, v2] σ0 fun r σ' => r = .bool true ∧ σ' = σ0 := by
  refine (same_wc hG a1 a2 hb).mono fun v σ' H => ⟨?_, H.2⟩
  rw [H.1, decide_eq_true he]
theorem own_drop {v : Value} {l : List Wd} {k : Nat} (h : OwnW G σ v l) (hk : k ≤ l.length) : ∃ v', sliceF Tryd.prog 37 v (some (.int .i64 (k : Int))) none none = some v' ∧ Vw σ v' (l.drop k) := by
  have ht : uT Tryd.prog 37 = some (.slice 28) := by kernel_rfl
  have hs : sizeT Tryd.prog 28 = some 2 := by kernel_rfl
  cases h with
  | emp hb hr =>
    obtain rfl : k = 0 := by simpa using hk
    refine ⟨_, ?_, (OwnW.emp hb hr).vw⟩
    unfold sliceF
    simp only [ht, hs, boundF]
    simp
  | row h0 h =>
    obtain ⟨q, c, r, rfl, hq, hr, hrt, hc, hl, hx⟩ := gr_row h h0
    refine ⟨.slice (some (if c = k then ⟨q, 0, some 2⟩ else ⟨q, 0 + k * 2, some 2⟩)) (l.length - k) (c - k), ?_, ?_, fun hlen => ?_⟩
    · unfold sliceF
      simp only [ht, hs, boundF]
      rw [if_pos (show (0 : Int) ≤ (k : Int) ∧ (k : Int) ≤ (l.length : Nat) by omega)]
      simp only [Int.toNat_natCast]
      rw [if_pos (show True ∧ l.length ≤ c from ⟨trivial, hl⟩)]
    · unfold lenF
      rw [ht, List.length_drop]
    · rw [List.length_drop] at hlen
      rw [if_neg (by omega)]
      refine .some hr (by rw [wdC_length, List.length_drop]) fun i x hi => ?_
      have hw : wdC (l.drop k) = (wdC l).drop (k * 2) := by
        have h1 : wdC l = wdC (l.take k) ++ wdC (l.drop k) := by
          rw [← wdC_app, List.take_append_drop]
        have h2 : (wdC (l.take k)).length = k * 2 := by rw [wdC_length, List.length_take]; congr 1; omega
        rw [h1, ← h2, List.drop_left]
      rw [hw, List.getElem?_drop, ← hx, List.getElem?_take] at hi
      split at hi
      · rw [show 0 + k * 2 + i = k * 2 + i by omega]; exact hi
      · cases hi
end
end Go.Proofs.YtaaebeiigkhcjaaDoor
