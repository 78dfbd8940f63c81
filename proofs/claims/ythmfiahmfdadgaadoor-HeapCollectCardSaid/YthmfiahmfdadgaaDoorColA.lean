/-
  HeapCollect in the second memory: what its walk is made of, its first loop. Conditions: none.
-/
import Derived.Test.YthmfiahmfdadgaaDoorHs
import Derived.Test.YthmfiahmfdadgaaDoorWq
namespace Go.Proofs.YthmfiahmfdadgaaDoor
set_option maxRecDepth 100000

def pk (l : List Int) (i : Nat) : Nat := (pickOf (l.getD i 0) 41).toNat
theorem pk_lt (l : List Int) (i : Nat) : pk l i < 41 := by have := pick_range (l.getD i 0) 41 (by omega); unfold pk; omega
theorem pk_int (l : List Int) (i : Nat) (x : Int) (h : l[i]? = some x) : pickOf x 41 = (pk l i : Int) := by
  have := pick_range x 41 (by omega)
  unfold pk
  rw [List.getD_eq_getElem?_getD, h]
  simp
  omega
/-- A row of numbers, as the law has it. -/
structure ArgS (G : Nat) (σ : Mem) (v : Value) (l : List Int) : Prop where
  len : lenF Tryd.prog 54 v = some (.int .i64 l.length)
  row : 0 < l.length → ∃ b c r, v = .slice (some ⟨b, 0, none⟩) l.length c ∧ b < G ∧ σ.get b = some (.row r) ∧ ∀ (j : Nat) x, l[j]? = some x → r.cs[j]? = some (.int .i64 x)
  bnd : ∀ x ∈ l, -9223372036854775808 ≤ x ∧ x ≤ 9223372036854775807
theorem ArgS.at {G : Nat} {σ : Mem} {v : Value} {l : List Int} (h : ArgS G σ v l) {k : Nat} (hk : k < l.length) : ∃ b c r x, v = .slice (some ⟨b, 0, none⟩) l.length c ∧ b < G ∧ σ.get b = some (.row r) ∧ r.cs[0 + (k : Int).toNat * 1]? = some (.int .i64 x) ∧ -9223372036854775808 ≤ x ∧ x ≤ 9223372036854775807 ∧ pickOf x 41 = (pk l k : Int) := by
  obtain ⟨b, c, r, h1, h2, h3, h4⟩ := h.row (by omega)
  have hx := List.getElem?_eq_getElem hk
  obtain ⟨k1, k2⟩ := h.bnd _ (List.getElem_mem hk)
  exact ⟨b, c, r, l[k], h1, h2, h3, by simpa using h4 k _ hx, k1, k2, pk_int l k _ hx⟩
theorem s_pk {G : Nat} {σ : Mem} {x : Int} {k : Nat} (b1 : -9223372036854775808 ≤ x) (b2 : x ≤ 9223372036854775807) (h : pickOf x 41 = (k : Int)) : SCall G Tryd.prog 13 #[.int .i64 x, .int .i64 41] σ (.int .i64 (k : Int)) σ := by
  rw [← h]
  exact s_pick x 41 b1 b2 (by decide) (by decide)
theorem s_consE {G : Nat} {σ : Mem} {h : Nat} {m m' : HM} {a d : Int} (ha : σ.abs = heapAbs h m) (hm : m.many < m.limit) (hf : m.free = []) (hm' : m.push (.pair (2, a) (2, d)) = m') :
    SCall G Tryd.prog 12 #[.pointer (some ⟨h, 0, none⟩), wdV (2, a), wdV (2, d)] σ (.tuple #[.agg #[.int .i64 2, .int .i64 m.objs.length], .int .i64 0]) (σ.with (heapAbs h m')) := by
  subst hm'
  exact s_cons (2, a) (2, d) ha hm hf
theorem pairs_many (L : Nat) (c d : Nat → Nat) (n : Nat) (F : List Int) : (⟨L, pairs c d n, F⟩ : HM).many = n := by
  unfold HM.many
  rw [List.filter_eq_self.2]
  · exact pairs_length c d n
  · intro a ha
    obtain ⟨i, _, rfl⟩ := List.mem_map.1 ha
    rfl
/-- The law's heap behind n pairs. -/
def mem1 (σ0 : Mem) (l1 l2 : List Int) (n : Nat) : Mem := (σ0.made 50).with (heapAbs σ0.next ⟨50, pairs (pk l1) (pk l2) n, []⟩)
theorem mem1_get (σ0 : Mem) (l1 l2 : List Int) (n b : Nat) : (mem1 σ0 l1 l2 n).get b = σ0.get b := made_get σ0 50 b

theorem st5 {G : Nat} {σ0 : Mem} {v1 v2 v3 : Value} {l1 l2 : List Int} (hG : G ≤ σ0.next) (a1 : ArgS G σ0 v1 l1) (a2 : ArgS G σ0 v2 l2) (h1 : l1.length ≤ 40) (h2 : l1.length ≤ l2.length) {ta : Nat → Value} (e0 : ta 0 = v1) (e1 : ta 1 = v2) (e2 : ta 2 = v3) (e7 : ta 7 = .int .i64 l1.length) (e8 : ta 8 = .pointer (some ⟨σ0.next, 0, none⟩))
    (next : ∀ ta', ta' 0 = v1 → ta' 1 = v2 → ta' 2 = v3 → ta' 7 = .int .i64 l1.length → ta' 8 = .pointer (some ⟨σ0.next, 0, none⟩) → W G Tryd.prog none 223 (restN 6 (bodyOf Tryd.f5)) ta' [] (mem1 σ0 l1 l2 l1.length) (trueQ 6)) :
    W G Tryd.prog none 223 (restN 5 (bodyOf Tryd.f5)) ta [] (σ0.made 50) (trueQ 6) := by
  refine W.know 0 e0 (W.know 1 e1 (W.know 2 e2 (W.know 7 e7 (W.know 8 e8 (?_)))))
  refine W.seq ?_
  refine W.seq ?_
  refine W.region ?_
  refine RW.val (by kernel_rfl) (by kernel_rfl) rfl (by kernel_rfl) ?_
  refine RW.nil ?_
  refine W.block ?_
  refine W.loop (fun m ta σ => ∃ k : Nat, m + k = l1.length ∧ σ = mem1 σ0 l1 l2 k ∧ ta 0 = v1 ∧ ta 1 = v2 ∧ ta 2 = v3 ∧ ta 7 = .int .i64 l1.length ∧ ta 8 = .pointer (some ⟨σ0.next, 0, none⟩) ∧ ta 10 = .int .i64 k) l1.length ?_ ?_
  · exact ⟨0, rfl, rfl, rfl, rfl, rfl, rfl, rfl, rfl⟩
  rintro m ta _ ⟨k, hm, rfl, e0, e1, e2, e7, e8, e10⟩
  refine W.know 0 e0 (W.know 1 e1 (W.know 2 e2 (W.know 7 e7 (W.know 8 e8 (W.know 10 e10 (?_))))))
  refine W.seq ?_
  refine W.seq ?_
  refine W.region ?_
  refine RW.val (by kernel_rfl) (by kernel_rfl) rfl (by kernel_rfl) ?_
  refine RW.val (by kernel_rfl) (by kernel_rfl) rfl (by kernel_rfl) ?_
  refine RW.val (by kernel_rfl) (by kernel_rfl) rfl (by kernel_rfl) ?_
  refine RW.nil ?_
  refine W.cond rfl (fun h => ?_) (fun h => ?_)
  · have hk : k < l1.length := by have := of_decide_eq_true h; omega
    refine W.skip ?_
    refine W.seq ?_
    refine W.block ?_
    obtain ⟨b1, c1, r1, x1, rfl, g1, w1, u1, lo1, hi1, p1⟩ := a1.at hk
    obtain ⟨b2, c2, r2, x2, rfl, g2, w2, u2, lo2, hi2, p2⟩ := a2.at (Nat.lt_of_lt_of_le hk h2)
    have w1' : (mem1 σ0 l1 l2 k).get b1 = some (.row r1) := by rw [mem1_get]; exact w1
    have w2' : (mem1 σ0 l1 l2 k).get b2 = some (.row r2) := by rw [mem1_get]; exact w2
    refine W.drawnS (by kernel_rfl) (by kernel_rfl) (Nat.le_succ_of_le hG) ?_
    refine RW.val (by kernel_rfl) (by kernel_rfl) rfl (by kernel_rfl) ?_
    refine RW.val (by kernel_rfl) (by kernel_rfl) rfl (by kernel_rfl) ?_
    refine RW.val (by kernel_rfl) (by kernel_rfl) rfl (by kernel_rfl) ?_
    refine RW.idx (s := 1) (by kernel_rfl) (by kernel_rfl) rfl Tryd.underlying54 (by kernel_rfl) rfl rfl ⟨by omega, by omega⟩ (by kernel_rfl) ?_
    refine RW.load (by kernel_rfl) (by kernel_rfl) rfl rfl w1' u1 rfl (by kernel_rfl) ?_
    refine RW.call (by kernel_rfl) (by kernel_rfl) rfl rfl rfl (by kernel_rfl) (by kernel_rfl) ⟨_, _, s_pk lo1 hi1 p1, ?_⟩
    refine RW.call (by kernel_rfl) (by kernel_rfl) rfl rfl rfl (by kernel_rfl) (by kernel_rfl) ⟨_, _, s_word _ _, ?_⟩
    refine RW.val (by kernel_rfl) (by kernel_rfl) rfl (by kernel_rfl) ?_
    refine RW.val (by kernel_rfl) (by kernel_rfl) rfl (by kernel_rfl) ?_
    refine RW.idx (s := 1) (by kernel_rfl) (by kernel_rfl) rfl Tryd.underlying54 (by kernel_rfl) rfl rfl ⟨by omega, by omega⟩ (by kernel_rfl) ?_
    refine RW.load (by kernel_rfl) (by kernel_rfl) rfl rfl w2' u2 rfl (by kernel_rfl) ?_
    refine RW.call (by kernel_rfl) (by kernel_rfl) rfl rfl rfl (by kernel_rfl) (by kernel_rfl) ⟨_, _, s_pk lo2 hi2 p2, ?_⟩
    refine RW.call (by kernel_rfl) (by kernel_rfl) rfl rfl rfl (by kernel_rfl) (by kernel_rfl) ⟨_, _, s_word _ _, ?_⟩
    refine RW.call (by kernel_rfl) (by kernel_rfl) rfl rfl rfl (by kernel_rfl) (by kernel_rfl) ⟨_, _, s_consE (m' := ⟨50, pairs (pk l1) (pk l2) (k + 1), []⟩) rfl (by rw [pairs_many]; show k < 50; omega) rfl (by rw [pairs_succ]; rfl), ?_⟩
    refine RW.nil ?_
    refine ⟨⟨by kernel_rfl, ?_, fun b => rfl⟩, ?_⟩
    · repeat' (first | exact True.intro | exact fun _ => rfl | exact ⟨_, w1'⟩ | exact ⟨_, w2'⟩ | refine And.intro ?_ ?_)
    refine W.region ?_
    refine RW.val (by kernel_rfl) (by kernel_rfl) rfl (by kernel_rfl) ?_
    refine RW.valE (by kernel_rfl) (by kernel_rfl) rfl (congrArg (Value.int .i64) (wrap_in (by omega) (by omega))) (by kernel_rfl) ?_
    refine RW.val (by kernel_rfl) (by kernel_rfl) rfl (by kernel_rfl) ?_
    refine RW.nil ?_
    exact ⟨rfl, m - 1, by omega, k + 1, by omega, rfl, rfl, rfl, rfl, rfl, rfl, rfl⟩
  · have hk : k = l1.length := by have := of_decide_eq_false h; omega
    subst hk
    refine W.exit _ ?_
    exact next _ rfl rfl rfl rfl rfl
end Go.Proofs.YthmfiahmfdadgaaDoor
