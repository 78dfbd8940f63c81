/-
  slices.Reverse, lists.Append and lists.Reverse in the second memory. Conditions: the heap lies there as HeapAt says, no number is free below.
-/
import Derived.Test.YtehcckhdppdkcaaGreatDoorLw
namespace Go.Proofs.YtehcckhdppdkcaaGreatDoor
set_option maxRecDepth 100000
theorem overL_two {cs : List Value} {p : Nat} {a b : Value} (h : p + 2 ≤ cs.length) : overL cs p [a, b] = (cs.set p a).set (p + 1) b := by
  apply List.ext_getElem?
  intro i
  rw [overL_get (by simpa using h)]
  simp only [List.length_cons, List.length_nil, List.getElem?_set, List.length_set]
  rcases Nat.lt_or_ge i p with h1 | h1
  · rw [if_neg (by omega), if_neg (by omega), if_neg (by omega)]
  · rcases Nat.eq_or_lt_of_le h1 with h2 | h2
    · subst h2
      simp
      omega
    · rcases Nat.eq_or_lt_of_le h2 with h3 | h3
      · rw [if_pos (by omega), if_pos (by omega), if_pos (by omega), show i - p = 1 by omega]
        rfl
      · rw [if_neg (by omega), if_neg (by omega), if_neg (by omega)]
theorem wdC_over {cs : List Value} {L : List Wd} {k : Nat} (hx : cs.take (L.length * 2) = wdC L) (hc : L.length * 2 ≤ cs.length) (hk : k < L.length) (x : Wd) : (overL cs (k * 2) [.int .i64 x.1, .int .i64 x.2]).take (L.length * 2) = wdC (L.set k x) := by
  rw [overL_two (by omega), List.take_set, List.take_set, hx, wdC_set _ _ _ hk]
/-- The first k and the last k changed about. -/
def swK (l : List Wd) (k : Nat) : List Wd := (List.range l.length).map fun i => if i < k ∨ l.length - 1 - i < k then l.getD (l.length - 1 - i) (0, 0) else l.getD i (0, 0)
theorem swK_length (l : List Wd) (k : Nat) : (swK l k).length = l.length := by simp [swK]
theorem swK_at (l : List Wd) (k i : Nat) (h : i < l.length) : (swK l k)[i]? = some (if i < k ∨ l.length - 1 - i < k then l.getD (l.length - 1 - i) (0, 0) else l.getD i (0, 0)) := by
  simp [swK, h]
theorem swK_get (l : List Wd) (k i : Nat) (h : i < l.length) : (swK l k).getD i (0, 0) = if i < k ∨ l.length - 1 - i < k then l.getD (l.length - 1 - i) (0, 0) else l.getD i (0, 0) := by
  rw [List.getD_eq_getElem?_getD, swK_at l k i h]
  rfl
theorem getD_at {l : List Wd} {i : Nat} (h : i < l.length) : l[i]? = some (l.getD i (0, 0)) := by simp [List.getD_eq_getElem?_getD, h]
theorem swK_zero (l : List Wd) : swK l 0 = l := by
  apply List.ext_getElem?
  intro i
  rcases Nat.lt_or_ge i l.length with h | h
  · rw [swK_at l 0 i h, if_neg (by omega), ← getD_at h]
  · rw [List.getElem?_eq_none (by rw [swK_length]; exact h), List.getElem?_eq_none h]
theorem swK_succ {l : List Wd} {k j : Nat} (hj : k + 1 + j = l.length) (hk : k < j) : ((swK l k).set k ((swK l k).getD j (0, 0))).set j ((swK l k).getD k (0, 0)) = swK l (k + 1) := by
  rw [swK_get l k j (by omega), swK_get l k k (by omega), if_neg (by omega), if_neg (by omega)]
  apply List.ext_getElem?
  intro i
  rcases Nat.lt_or_ge i l.length with h | h
  · rw [swK_at l (k + 1) i h]
    simp only [List.getElem?_set, List.length_set, swK_length]
    by_cases h1 : j = i
    · subst h1
      rw [if_pos rfl, if_pos h, if_pos (by omega), show l.length - 1 - j = k by omega]
    · rw [if_neg h1]
      by_cases h2 : k = i
      · subst h2
        rw [if_pos rfl, if_pos h, if_pos (by omega), show l.length - 1 - k = j by omega]
      · rw [if_neg h2, swK_at l k i h]
        by_cases h3 : i < k ∨ l.length - 1 - i < k
        · rw [if_pos h3, if_pos (by omega)]
        · rw [if_neg h3, if_neg (by omega)]
  · rw [List.getElem?_eq_none (by simp [swK_length]; exact h), List.getElem?_eq_none (by rw [swK_length]; exact h)]
theorem swK_done {l : List Wd} {k : Nat} (h : l.length ≤ 2 * k + 1) : swK l k = l.reverse := by
  apply List.ext_getElem?
  intro i
  rcases Nat.lt_or_ge i l.length with hi | hi
  · rw [swK_at l k i hi, List.getElem?_reverse hi]
    by_cases h3 : i < k ∨ l.length - 1 - i < k
    · rw [if_pos h3, ← getD_at (by omega)]
    · rw [if_neg h3, ← getD_at hi, show l.length - 1 - i = i by omega]
  · rw [List.getElem?_eq_none (by rw [swK_length]; exact hi), List.getElem?_eq_none (by simpa using hi)]
section
variable {G h : Nat} {m : HM} {σ σ0 : Mem}
theorem gr_row {v : Value} {xs : List Value} {n : Nat} {e : TypeId} (g : GRow G σ e 2 v n xs) (hn : 0 < n) : ∃ q c r, v = .slice (some ⟨q, 0, some 2⟩) n c ∧ G ≤ q ∧ σ.get q = some (.row r) ∧ r.t = e ∧ r.cs.length = c * 2 ∧ n ≤ c ∧ r.cs.take (n * 2) = xs := by
  cases g with
  | nil => omega
  | row hq hr ht hc hl hx => exact ⟨_, _, _, rfl, hq, hr, ht, hc, hl, hx⟩
theorem gr_at {q c : Nat} {r : Row} {l : List Wd} (g : GRow G σ 37 2 (.slice (some ⟨q, 0, some 2⟩) l.length c) l.length (wdC l)) (hr : σ.get q = some (.row r)) {j : Nat} (hj : j < l.length) : (r.cs.drop (0 + ((j : Nat) : Int).toNat * 2)).take 2 = [.int .i64 (l.getD j (0, 0)).1, .int .i64 (l.getD j (0, 0)).2] := by
  obtain ⟨b, p, sp, c', r', e, hr', hc'⟩ := sl_at g.sl hj
  cases e
  rw [hr] at hr'
  cases hr'
  exact hc'
set_option maxHeartbeats 1000000 in
theorem revs_wc {v : Value} {l : List Wd} (hG : G ≤ σ0.next) (g0 : GRow G σ0 37 2 v l.length (wdC l)) (hb : l.length ≤ 1000000) :
    WC G Tryz.prog 55 #[v] σ0 fun r σ' => r = .tuple #[] ∧ GRow G σ' 37 2 v l.length (wdC l.reverse) ∧ (∀ b y, blkOf v ≠ some b → σ0.get b = some y → σ'.get b = some y) ∧ σ'.next = σ0.next ∧ σ'.abs = σ0.abs := by
  refine WC.enter (fn := Tryz.f55) Tryz.func55 rfl ?_
  refine W.know 0 (x := v) rfl ?_
  refine W.seq ?_
  refine W.region ?_
  refine RW.val (by kernel_rfl) (by kernel_rfl) rfl (by kernel_rfl) ?_
  refine RW.len (by kernel_rfl) (by kernel_rfl) rfl rfl rfl rfl (g0.len (by kernel_rfl)) (by kernel_rfl) ?_
  refine RW.valE (by kernel_rfl) (by kernel_rfl) rfl (congrArg (Value.int .i64) (wrap_in (by omega) (by omega))) (by kernel_rfl) ?_
  refine RW.val (by kernel_rfl) (by kernel_rfl) rfl (by kernel_rfl) ?_
  refine RW.val (by kernel_rfl) (by kernel_rfl) rfl (by kernel_rfl) ?_
  refine RW.nil ?_
  refine W.block ?_
  refine W.loop (fun mm ta σ => ∃ k : Nat, mm + k = l.length ∧ GRow G σ 37 2 v l.length (wdC (swK l k)) ∧ (∀ b y, blkOf v ≠ some b → σ0.get b = some y → σ.get b = some y) ∧ σ.next = σ0.next ∧ σ.abs = σ0.abs ∧ ta 0 = v ∧ ta 2 = .int .i64 (k : Int) ∧ ta 3 = .int .i64 ((l.length : Int) - 1 - (k : Int))) l.length ?_ ?_
  · exact ⟨0, rfl, by rw [swK_zero]; exact g0, fun _ _ _ h => h, rfl, rfl, rfl, rfl, by show Value.int .i64 _ = _; simp⟩
  clear g0
  rintro mm ta σ ⟨k, hm, g, hold, hnx, hab, e0, e2, e3⟩
  refine W.know 0 e0 (W.know 2 e2 (W.know 3 e3 (?_)))
  refine W.seq ?_
  refine W.seq ?_
  refine W.region ?_
  refine RW.val (by kernel_rfl) (by kernel_rfl) rfl (by kernel_rfl) ?_
  refine RW.val (by kernel_rfl) (by kernel_rfl) rfl (by kernel_rfl) ?_
  refine RW.val (by kernel_rfl) (by kernel_rfl) rfl (by kernel_rfl) ?_
  refine RW.nil ?_
  refine W.cond rfl (fun hh => ?_) (fun hh => ?_)
  · have hlt := of_decide_eq_true hh
    obtain ⟨j, hj⟩ : ∃ j, k + 1 + j = l.length := ⟨l.length - 1 - k, by omega⟩
    have ej : (l.length : Int) - 1 - (k : Int) = ((j : Nat) : Int) := by omega
    have hkj : k < j := by omega
    have hlen := swK_length l k
    obtain ⟨q, c, r, rfl, hq, hr, ht, hc, hl, hx⟩ := gr_row g (by omega)
    have gg : GRow G σ 37 2 (.slice (some ⟨q, 0, some 2⟩) (swK l k).length c) (swK l k).length (wdC (swK l k)) := by rw [hlen]; exact .row hq hr ht hc hl hx
    have ck := gr_at (j := k) gg hr (by omega)
    have cj := gr_at (j := j) gg hr (by omega)
    have hsz : 0 + ((k : Nat) : Int).toNat * 2 + 2 ≤ r.cs.length ∧ 0 + ((j : Nat) : Int).toNat * 2 + 2 ≤ r.cs.length := by
      rw [hc, Int.toNat_natCast, Int.toNat_natCast]; omega
    rw [ej]
    refine W.skip ?_
    refine W.seq ?_
    refine W.block ?_
    refine W.drawn (by kernel_rfl) (by kernel_rfl) (by omega) ?_
    refine RW.val (by kernel_rfl) (by kernel_rfl) rfl (by kernel_rfl) ?_
    refine RW.val (by kernel_rfl) (by kernel_rfl) rfl (by kernel_rfl) ?_
    refine RW.val (by kernel_rfl) (by kernel_rfl) rfl (by kernel_rfl) ?_
    refine RW.val (by kernel_rfl) (by kernel_rfl) rfl (by kernel_rfl) ?_
    refine RW.val (by kernel_rfl) (by kernel_rfl) rfl (by kernel_rfl) ?_
    refine RW.val (by kernel_rfl) (by kernel_rfl) rfl (by kernel_rfl) ?_
    refine RW.idx (s := 2) (by kernel_rfl) (by kernel_rfl) rfl Tryz.underlying29 (by kernel_rfl) rfl rfl ⟨by omega, by omega⟩ (by kernel_rfl) ?_
    refine RW.loads 2 (by kernel_rfl) (by kernel_rfl) rfl rfl hr cj rfl (by kernel_rfl) ?_
    refine RW.val (by kernel_rfl) (by kernel_rfl) rfl (by kernel_rfl) ?_
    refine RW.val (by kernel_rfl) (by kernel_rfl) rfl (by kernel_rfl) ?_
    refine RW.idx (s := 2) (by kernel_rfl) (by kernel_rfl) rfl Tryz.underlying29 (by kernel_rfl) rfl rfl ⟨by omega, by omega⟩ (by kernel_rfl) ?_
    refine RW.loads 2 (by kernel_rfl) (by kernel_rfl) rfl rfl hr ck rfl (by kernel_rfl) ?_
    refine RW.idx (s := 2) (by kernel_rfl) (by kernel_rfl) rfl Tryz.underlying29 (by kernel_rfl) rfl rfl ⟨by omega, by omega⟩ (by kernel_rfl) ?_
    refine RW.stores (b := q) (p := 0 + ((k : Nat) : Int).toNat * 2) (r := r) (by kernel_rfl) (by kernel_rfl) rfl rfl hq hr rfl rfl (by kernel_rfl) hsz.1 (by kernel_rfl) ?_
    refine RW.idx (s := 2) (by kernel_rfl) (by kernel_rfl) rfl Tryz.underlying29 (by kernel_rfl) rfl rfl ⟨by omega, by omega⟩ (by kernel_rfl) ?_
    refine RW.stores (b := q) (p := 0 + ((j : Nat) : Int).toNat * 2) (by kernel_rfl) (by kernel_rfl) rfl rfl hq (get_put hr) rfl rfl (by kernel_rfl) (by show _ ≤ (overL _ _ _).length; rw [overL_len (by exact hsz.1)]; exact hsz.2) (by kernel_rfl) ?_
    refine RW.nil ?_
    refine ⟨⟨by kernel_rfl, ?_⟩, ?_⟩
    · repeat' (first | exact True.intro | exact Or.inl (by kernel_rfl) | refine And.intro ?_ ?_)
    refine W.region ?_
    refine RW.val (by kernel_rfl) (by kernel_rfl) rfl (by kernel_rfl) ?_
    refine RW.valE (by kernel_rfl) (by kernel_rfl) rfl (congrArg (Value.int .i64) (wrap_in (by omega) (by omega))) (by kernel_rfl) ?_
    refine RW.val (by kernel_rfl) (by kernel_rfl) rfl (by kernel_rfl) ?_
    refine RW.valE (by kernel_rfl) (by kernel_rfl) rfl (congrArg (Value.int .i64) (wrap_in (by omega) (by omega))) (by kernel_rfl) ?_
    refine RW.val (by kernel_rfl) (by kernel_rfl) rfl (by kernel_rfl) ?_
    refine RW.val (by kernel_rfl) (by kernel_rfl) rfl (by kernel_rfl) ?_
    refine RW.nil ?_
    refine ⟨rfl, mm - 1, by omega, k + 1, by omega, ?_, fun b y hb2 hy => get_put_ne (get_put_ne (hold b y hb2 hy) (fun e => hb2 (by rw [e]; rfl))) (fun e => hb2 (by rw [e]; rfl)), hnx, hab, rfl, rfl, by show Value.int .i64 _ = _; congr 1; omega⟩
    have hs2 := hsz
    simp only [Int.toNat_natCast, Nat.zero_add] at hs2 ⊢
    refine .row hq (get_put (get_put hr)) ht ?_ hl ?_
    · show (overL (overL _ _ _) _ _).length = _
      rw [overL_len (by rw [overL_len (by exact hs2.1)]; exact hs2.2), overL_len (by exact hs2.1), hc]
    · show (overL (overL _ _ _) _ _).take _ = _
      rw [← swK_succ hj hkj]
      have h1 : (overL r.cs (k * 2) [.int .i64 ((swK l k).getD j (0, 0)).1, .int .i64 ((swK l k).getD j (0, 0)).2]).take ((swK l k).length * 2) = _ := wdC_over (k := k) (by rw [hlen]; exact hx) (by rw [hlen, hc]; omega) (by omega) ((swK l k).getD j (0, 0))
      have h2 := wdC_over (k := j) (L := (swK l k).set k ((swK l k).getD j (0, 0))) (cs := overL r.cs (k * 2) [.int .i64 ((swK l k).getD j (0, 0)).1, .int .i64 ((swK l k).getD j (0, 0)).2]) (by rw [List.length_set]; exact h1) (by rw [List.length_set, hlen, overL_len (by exact hs2.1), hc]; omega) (by rw [List.length_set]; omega) ((swK l k).getD k (0, 0))
      rw [List.length_set, hlen] at h2
      exact h2
  · have hge := of_decide_eq_false hh
    refine W.exit _ ?_
    refine endG (R := fun r σ' => r = .tuple #[] ∧ GRow G σ' 37 2 v l.length (wdC l.reverse) ∧ (∀ b y, blkOf v ≠ some b → σ0.get b = some y → σ'.get b = some y) ∧ σ'.next = σ0.next ∧ σ'.abs = σ0.abs) (vs := []) rfl rfl ⟨rfl, ?_, hold, hnx, hab⟩
    rw [← swK_done (l := l) (k := k) (by omega)]
    exact g
end
end Go.Proofs.YtehcckhdppdkcaaGreatDoor
