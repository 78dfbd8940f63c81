/-
  Opening an argument that is a slice of two numbers and a truth value each, for the second memory. Conditions: none.
-/
import Derived.Test.YtaaebeiigkhcjaaGreatDoorR2
import Derived.Test.YtaaebeiigkhcjaaGreatDoorY1
import Derived.Test.YtaaebeiigkhcjaaGreatDoorS3
namespace Go.Proofs.YtaaebeiigkhcjaaGreatDoor
open Go.ChangeShapes Go.WideShapes Go.ChangeAt Go.RowKit
set_option maxRecDepth 100000
def TripsA (w : World) (v : Value) (l : List Dk) : Prop :=
  ∃ A c, v = .slice A l.length c ∧ (A = none → c = 0) ∧ (0 < l.length → ∃ b off, A = some ⟨b, off, none⟩ ∧ ∀ (j : Nat) y, l[j]? = some y → w.cell? ⟨b, off + j * 3, none⟩ = some (.int .i64 y.1) ∧ w.cell? ⟨b, off + j * 3 + 1, none⟩ = some (.int .i64 y.2.1) ∧ w.cell? ⟨b, off + j * 3 + 2, none⟩ = some (.bool y.2.2))
theorem open_trips_list {H : Type} {enc : TypeId × Value → H} {P : Program} {w : World} {r : Reach} {b0 : Nat} {t e : TypeId} {f0 f1 f2 : Field} {v : Value} {d : DataW H} {p : List MemPlace}
    (ht : P.underlying t = some (.slice e)) (he : P.underlying e = some (.struct #[f0, f1, f2])) (ce : P.cellsOf e = 3) (o0 : f0.offset = 0) (o1 : f1.offset = 1) (o2 : f2.offset = 2) (c0 : P.cellsOf f0.type = 1) (c1 : P.cellsOf f1.type = 1) (c2 : P.cellsOf f2.type = 1)
    (i0 : P.underlying f0.type = some (.int .i64)) (i1 : P.underlying f1.type = some (.int .i64)) (i2 : P.underlying f2.type = some .bool)
    (hv : Value.okWide P w r b0 t v) (h : DataW.Trod enc P w 0 (fun _ => true) true t v d p) :
    ∃ (l : List Dk), TripsA w v l ∧ ∀ x ∈ l, (-9223372036854775808 ≤ x.1 ∧ x.1 ≤ 9223372036854775807) ∧ (-9223372036854775808 ≤ x.2.1 ∧ x.2.1 ≤ 9223372036854775807) := by
  obtain ⟨a, len, cap, rfl⟩ := okWide_slice ht hv
  obtain ⟨fuel, hf⟩ := h
  rcases Go.Deep.open_slice ht hf with ⟨hcs, _⟩ | ⟨a', len', cap', m, n, D, Pl, hcs, _, hl, hm, hmm, _, hi⟩
  · simp [Value.cells] at hcs
    obtain ⟨rfl, rfl, rfl⟩ := hcs
    exact ⟨[], ⟨none, 0, rfl, fun _ => rfl, fun h => absurd h (by simp)⟩, by simp⟩
  · simp [Value.cells] at hcs
    obtain ⟨rfl, rfl, rfl⟩ := hcs
    have hlm : len ≤ m := by rw [hmm]; split <;> omega
    have each : ∀ i, i < len → ∃ x : Dk, (w.cell? (a'.add (i * 3)) = some (.int .i64 x.1) ∧ w.cell? (a'.add (i * 3 + 1)) = some (.int .i64 x.2.1) ∧ w.cell? (a'.add (i * 3 + 2)) = some (.bool x.2.2)) ∧ (-9223372036854775808 ≤ x.1 ∧ x.1 ≤ 9223372036854775807) ∧ (-9223372036854775808 ≤ x.2.1 ∧ x.2.1 ≤ 9223372036854775807) := by
      intro i hil
      obtain ⟨cs', h1, h2⟩ := hi i (by omega)
      rw [ce] at h1
      obtain ⟨_, hlen, hcell⟩ := World.cells?_some h1
      obtain ⟨xs, k, hk, hxy, _, hxl, hf⟩ := DataW.trod_struct he h2
      match xs, hxl, cs', hlen with
      | [y0, y1, y2], _, [v0, v1, v2], _ =>
        have g0 := hf 0 f0 rfl
        have g1 := hf 1 f1 rfl
        have g2 := hf 2 f2 rfl
        simp [o0, o1, o2, c0, c1, c2] at g0 g1 g2
        have e0 := hcell 0 (by omega)
        have e1 := hcell 1 (by omega)
        have e2 := hcell 2 (by omega)
        rw [Go.Deep.add_add] at e0 e1 e2
        obtain ⟨z0, q0, _, w0⟩ := DataW.trod_int i0 g0
        obtain ⟨z1, q1, _, w1⟩ := DataW.trod_int i1 g1
        obtain ⟨z2, q2, _⟩ := DataW.trod_bool i2 g2
        simp at q0 q1 q2
        subst q0 q1 q2
        exact ⟨(z0, z1, z2), ⟨by simpa using e0, by simpa using e1, by simpa using e2⟩, int_bounds w0, int_bounds w1⟩
    obtain ⟨q, hq⟩ := Go.Deep.choose_lt each
    refine ⟨(List.range len).map q, ⟨some a', cap, by simp, (fun h => by cases h), fun h0 => ?_⟩, fun x hx => ?_⟩
    · simp at h0
      obtain ⟨b, off, spot⟩ := a'
      have hspot : spot = none := by simpa [Addr.add] using World.cell?_spot (hq 0 h0).1.1
      subst hspot
      refine ⟨b, off, rfl, fun j y hj => ?_⟩
      have hj' : j < len := by have := (List.getElem?_eq_some_iff.1 hj).1; simpa using this
      have hy : y = q j := by simpa [hj'] using hj.symm
      subst hy
      obtain ⟨h1, h2, h3⟩ := (hq j hj').1
      rw [addr_none] at h1 h2 h3
      exact ⟨h1, by rw [← h2, Nat.add_assoc], by rw [← h3, Nat.add_assoc]⟩
    · obtain ⟨j, hj, rfl⟩ := List.mem_map.1 hx
      exact (hq j (List.mem_range.1 hj)).2
theorem dpC_len : ∀ l : List Dk, (dpC l).length = l.length * 3
  | [] => rfl
  | x :: l => by
    rw [show dpC (x :: l) = [.int .i64 x.1, .int .i64 x.2.1, .bool x.2.2] ++ dpC l from rfl, List.length_append, dpC_len l]
    show 3 + l.length * 3 = (l.length + 1) * 3
    omega
theorem dpC_get : ∀ (l : List Dk) (j : Nat) (h : j < l.length), (dpC l)[j * 3]? = some (.int .i64 l[j].1) ∧ (dpC l)[j * 3 + 1]? = some (.int .i64 l[j].2.1) ∧ (dpC l)[j * 3 + 2]? = some (.bool l[j].2.2)
  | [], j, h => by cases h
  | x :: l, 0, h => ⟨rfl, rfl, rfl⟩
  | x :: l, j + 1, h => by
    have := dpC_get l j (by simpa using h)
    rw [show (j + 1) * 3 = j * 3 + 1 + 1 + 1 by omega]
    exact this
theorem arg_tripsF {w : World} {v : Value} {l : List Dk} (h : TripsA w v l) (k : Nat) :
    ∃ (r : ARow) (v2 : Value), (∀ μ : Mu, μ (64 + k) = some ⟨r.blk, r.sh, r.cs.length, 0, 0⟩ → VRel μ v2 v) ∧ (∀ (i : Nat) u, r.cs[i]? = some u → w.cell? ⟨r.blk, r.sh + i, none⟩ = some u ∧ flatV u = true) ∧
      ∀ (σ : Mem), (r.cs ≠ [] → σ.get (64 + k) = some (.row ⟨r.cs, 0, true⟩)) → SlF σ.get 3 v2 l.length (dpC l) := by
  obtain ⟨A, c, rfl, hn, hA⟩ := h
  by_cases h0 : 0 < l.length
  · obtain ⟨b, off, rfl, hc⟩ := hA h0
    have hwl := dpC_len l
    refine ⟨⟨b, off, dpC l⟩, .slice (some ⟨64 + k, 0, none⟩) l.length c, fun μ hm => ?_, fun i u hu => ?_, fun σ hr => ?_⟩
    · have := VRel.sliceE (μ := μ) (64 + k) 0 l.length c _ hm
      simpa using this
    · have hi : i < (dpC l).length := (List.getElem?_eq_some_iff.1 hu).1
      have hj : i / 3 < l.length := by omega
      have g := dpC_get l (i / 3) hj
      have cc := hc (i / 3) _ (List.getElem?_eq_getElem hj)
      have h3 : i % 3 = 0 ∨ i % 3 = 1 ∨ i % 3 = 2 := by omega
      rcases h3 with h3 | h3 | h3
      · rw [show i / 3 * 3 = i by omega] at g cc
        rw [g.1] at hu
        cases hu
        exact ⟨cc.1, rfl⟩
      · rw [show i / 3 * 3 + 1 = i by omega, hu] at g
        have c1 := cc.2.1
        rw [show off + i / 3 * 3 + 1 = off + i by omega] at c1
        have := Option.some.inj g.2.1
        subst this
        exact ⟨c1, rfl⟩
      · rw [show i / 3 * 3 + 2 = i by omega, hu] at g
        have c1 := cc.2.2
        rw [show off + i / 3 * 3 + 2 = off + i by omega] at c1
        have := Option.some.inj g.2.2
        subst this
        exact ⟨c1, rfl⟩
    · have hr := hr (by intro e; show False; have e : dpC l = [] := e; rw [e] at hwl; simp at hwl; omega)
      exact .some hr hwl (by rw [List.drop_zero]; exact List.take_of_length_le (by rw [hwl]; exact Nat.le_refl _))
  · obtain rfl : l = [] := List.length_eq_zero_iff.1 (by omega)
    cases A with
    | none =>
      obtain rfl := hn rfl
      exact ⟨⟨0, 0, []⟩, .slice none 0 0, fun μ _ => .flat _ rfl, fun i u hu => by simp at hu, fun σ _ => .nil _ rfl⟩
    | some x => exact ⟨⟨0, 0, []⟩, .chan (some c), fun μ _ => .void x c, fun i u hu => by simp at hu, fun σ _ => .void _ _ rfl⟩
end Go.Proofs.YtaaebeiigkhcjaaGreatDoor
