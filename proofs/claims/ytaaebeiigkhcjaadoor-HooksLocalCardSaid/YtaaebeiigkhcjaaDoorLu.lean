/-
  slices.Backward and lists.build, lists.Make in the second memory. Conditions: the heap lies there as HeapAt says, no number is free below.
-/
import Derived.Test.YtaaebeiigkhcjaaDoorLt
namespace Go.Proofs.YtaaebeiigkhcjaaDoor
set_option maxRecDepth 100000
theorem sl_old {σ σ' : Mem} {s : Nat} {v : Value} {xs : List Value} (h : Sl σ s v xs) (k : ∀ b y, σ.get b = some y → σ'.get b = some y) : Sl σ' s v xs := by
  cases h with
  | nil => exact .nil
  | some hr hx hc => exact .some (k _ _ hr) hx hc
theorem sl_at {σ : Mem} {v : Value} {l : List Wd} (h : Sl σ 2 v (wdC l)) {j : Nat} (hj : j < l.length) : ∃ b p sp c r, v = .slice (some ⟨b, p, sp⟩) l.length c ∧ σ.get b = some (.row r) ∧ (r.cs.drop (p + ((j : Nat) : Int).toNat * 2)).take 2 = [.int .i64 (l.getD j (0, 0)).1, .int .i64 (l.getD j (0, 0)).2] := by
  have hlen := wdC_length l
  generalize hxs : wdC l = xs at h
  cases h with
  | nil => rw [hxs] at hlen; simp at hlen; exact absurd hj (by omega)
  | @some b p n c sp r _ hr hx hc =>
    rw [hxs, hx] at hlen
    obtain rfl : n = l.length := by omega
    refine ⟨b, p, sp, c, r, rfl, hr, ?_⟩
    obtain ⟨w0, w1⟩ := wdC_get l j hj
    rw [hxs] at w0 w1
    have c0 := hc _ _ w0
    have c1 := hc _ _ w1
    have hg : l.getD j (0, 0) = l[j] := by simp [List.getD_eq_getElem?_getD, hj]
    rw [hg, Int.toNat_natCast]
    have h1 : p + j * 2 + 1 < r.cs.length := by
      rw [← Nat.add_assoc] at c1
      exact (List.getElem?_eq_some_iff.1 c1).1
    rw [List.drop_eq_getElem_cons (by omega), List.drop_eq_getElem_cons (by omega)]
    rw [List.getElem?_eq_getElem (by omega)] at c0
    rw [show p + (j * 2 + 1) = p + j * 2 + 1 by omega, List.getElem?_eq_getElem h1] at c1
    simp only [List.take_succ_cons, List.take_zero]
    rw [Option.some.inj c0, Option.some.inj c1]
/-- A slice of words, empty or as it lies. -/
def SlW (σ : Mem) (v : Value) (l : List Wd) : Prop := 0 < l.length → Sl σ 2 v (wdC l)
theorem slw_old {σ σ' : Mem} {v : Value} {l : List Wd} (h : SlW σ v l) (k : ∀ b y, σ.get b = some y → σ'.get b = some y) : SlW σ' v l := fun hl => sl_old (h hl) k
section
variable {G h : Nat} {m : HM} {σ σ0 : Mem}
theorem backward_wc (s : Value) (hs : s.cells.toList = [s]) (_hG : G ≤ σ.next) : WC G Tryd.prog 60 #[s] σ fun v σ' => v = .func (.func 69) #[] #[pp σ.next] ∧ Grow σ σ' ∧ σ'.next = σ.next + 1 ∧ σ'.get σ.next = some (.row ⟨[s], 37, false⟩) := by
  refine WC.enter (fn := Tryd.f60) Tryd.func60 rfl ?_
  refine W.seq ?_
  refine W.region ?_
  refine RW.makeG (x := .row ⟨s.cells.toList, 37, false⟩) (fm := fun b => .pointer (some ⟨b, 0, none⟩)) (by kernel_rfl) (by kernel_rfl) (by kernel_rfl) (by kernel_rfl) ?_; intro σ1 _ g1 G1 n1
  rw [hs] at g1
  refine RW.val (by kernel_rfl) (by kernel_rfl) rfl (by kernel_rfl) ?_
  refine RW.nil ?_
  refine W.seq ?_
  refine W.region ?_
  refine RW.val (by kernel_rfl) (by kernel_rfl) rfl (by kernel_rfl) ?_
  refine RW.val (by kernel_rfl) (by kernel_rfl) rfl (by kernel_rfl) ?_
  refine RW.nil ?_
  refine W.ret ?_
  exact endG rfl (resL_tmp rfl) ⟨by kernel_rfl, G1, n1, g1⟩
theorem backLoop {l : List Wd} {s : Value} {b1 L : Nat} (hL : G ≤ L) (hlen : lenF Tryd.prog 37 s = some (.int .i64 l.length)) (hl : l.length ≤ 1000000) {I : Nat → Mem → Prop} {R : Mem → Prop}
    (hI : ∀ k σ, I k σ → σ.get b1 = some (.row ⟨[s], 37, false⟩) ∧ SlW σ s l)
    (hy : ∀ k j σ, k + 1 + j = l.length → I k σ → Yield G Tryd.prog L [.int .i64 (j : Int), wdV (l.getD j (0, 0))] σ fun r σ' => r = true ∧ I (k + 1) σ')
    (hend : ∀ σ, I l.length σ → R σ) (h0 : I 0 σ0) :
    WC G Tryd.prog 69 #[.func (.yield L) #[] #[], pp b1] σ0 fun _ σ' => R σ' := by
  refine WC.enter (fn := Tryd.f69) Tryd.func69 rfl ?_
  refine W.know 0 (x := .func (.yield L) #[] #[]) rfl (W.know 1 (x := pp b1) rfl ?_)
  refine W.seq ?_
  refine W.region ?_
  refine RW.load (by kernel_rfl) (by kernel_rfl) rfl rfl (hI 0 σ0 h0).1 rfl rfl (by kernel_rfl) ?_
  refine RW.len (by kernel_rfl) (by kernel_rfl) rfl rfl rfl rfl hlen (by kernel_rfl) ?_
  refine RW.valE (by kernel_rfl) (by kernel_rfl) rfl (congrArg (Value.int .i64) (wrap_in (by omega) (by omega))) (by kernel_rfl) ?_
  refine RW.val (by kernel_rfl) (by kernel_rfl) rfl (by kernel_rfl) ?_
  refine RW.nil ?_
  refine W.block ?_
  refine W.loop (fun mm ta σ => ∃ k, mm + k = l.length ∧ I k σ ∧ ta 0 = .func (.yield L) #[] #[] ∧ ta 1 = pp b1 ∧ ta 3 = .int .i64 ((l.length : Int) - 1 - (k : Int))) l.length ?_ ?_
  · exact ⟨0, rfl, h0, rfl, rfl, by show Value.int .i64 _ = _; simp⟩
  rintro mm ta σ ⟨k, hm, hk, e0, e1, e3⟩
  refine W.know 0 e0 (W.know 1 e1 (W.know 3 e3 (?_)))
  obtain ⟨q1, q2⟩ := hI k σ hk
  refine W.seq ?_
  refine W.seq ?_
  refine W.region ?_
  refine RW.val (by kernel_rfl) (by kernel_rfl) rfl (by kernel_rfl) ?_
  refine RW.val (by kernel_rfl) (by kernel_rfl) rfl (by kernel_rfl) ?_
  refine RW.nil ?_
  refine W.cond rfl (fun hh => ?_) (fun hh => ?_)
  · have hkn : k < l.length := by have := of_decide_eq_true hh; omega
    obtain ⟨j, hj⟩ : ∃ j, k + 1 + j = l.length := ⟨l.length - 1 - k, by omega⟩
    have ej : (l.length : Int) - 1 - (k : Int) = ((j : Nat) : Int) := by omega
    obtain ⟨b, p, sp, cc, r, rfl, hr, hc⟩ := sl_at (q2 (by omega)) (j := j) (by omega)
    refine W.skip ?_
    refine W.seq ?_
    refine W.block ?_
    refine W.seq ?_
    refine W.region ?_
    rw [ej]
    refine RW.val (by kernel_rfl) (by kernel_rfl) rfl (by kernel_rfl) ?_
    refine RW.val (by kernel_rfl) (by kernel_rfl) rfl (by kernel_rfl) ?_
    refine RW.load (by kernel_rfl) (by kernel_rfl) rfl rfl q1 rfl rfl (by kernel_rfl) ?_
    refine RW.val (by kernel_rfl) (by kernel_rfl) rfl (by kernel_rfl) ?_
    refine RW.idx (s := 2) (by kernel_rfl) (by kernel_rfl) rfl Tryd.underlying37 (by kernel_rfl) rfl rfl ⟨by omega, by omega⟩ (by kernel_rfl) ?_
    refine RW.loads 2 (by kernel_rfl) (by kernel_rfl) rfl rfl hr hc rfl (by kernel_rfl) ?_
    refine RW.yieldR (by kernel_rfl) (by kernel_rfl) rfl rfl rfl hL rfl (by kernel_rfl) ?_
    refine (hy k j σ hj hk).mono fun r σ4 hr => ?_
    obtain ⟨rfl, h4⟩ := hr
    refine RW.val (by kernel_rfl) (by kernel_rfl) rfl (by kernel_rfl) ?_
    refine RW.nil ?_
    refine W.cond (b := false) rfl (fun h => by cases h) (fun _ => ?_)
    refine W.skip ?_
    refine W.region ?_
    refine RW.val (by kernel_rfl) (by kernel_rfl) rfl (by kernel_rfl) ?_
    refine RW.valE (by kernel_rfl) (by kernel_rfl) rfl (congrArg (Value.int .i64) (wrap_in (by omega) (by omega))) (by kernel_rfl) ?_
    refine RW.val (by kernel_rfl) (by kernel_rfl) rfl (by kernel_rfl) ?_
    refine RW.nil ?_
    exact ⟨rfl, mm - 1, by omega, k + 1, by omega, h4, rfl, rfl, by show Value.int .i64 _ = _; congr 1; omega⟩
  · have hkn : k = l.length := by have := of_decide_eq_false hh; omega
    subst hkn
    refine W.exit _ ?_
    exact endG (R := fun _ σ' => R σ') (vs := []) rfl rfl (hend σ hk)
end
end Go.Proofs.YtaaebeiigkhcjaaDoor
