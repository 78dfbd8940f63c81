/-
  A slice of slices of numbers among a law's arguments, in the second memory: a row for each. Conditions: none.
-/
import Derived.Test.YthemeeiedlbhkaaGreatDoorArgI
import Derived.Test.YthemeeiedlbhkaaGreatDoorY1
import Derived.Deep.Matrix
namespace Go.Proofs.YthemeeiedlbhkaaGreatDoor
open Go.ChangeShapes Go.WideShapes Go.ChangeAt Go.RowKit
set_option maxRecDepth 100000
def IntssS (w : World) (v : Value) (M : List (List Int)) : Prop :=
  ∃ A c, v = .slice A M.length c ∧ (A = none → c = 0) ∧ (0 < M.length → ∃ b off, A = some ⟨b, off, none⟩ ∧ ∀ (j : Nat) l, M[j]? = some l → ∃ u, w.cell? ⟨b, off + j, none⟩ = some u ∧ IntsS w u l)
theorem open_intss {H : Type} {enc : TypeId × Value → H} {P : Program} {w : World} {r : Reach} {b0 : Nat} {t e q : TypeId} {v : Value} {d : DataW H} {p : List MemPlace}
    (ht : P.underlying t = some (.slice e)) (he : P.underlying e = some (.slice q)) (hq : P.underlying q = some (.int .i64)) (ce : P.cellsOf e = 1) (cq : P.cellsOf q = 1) (hv : Value.okWide P w r b0 t v) (h : DataW.Trod enc P w 0 (fun _ => true) true t v d p) :
    ∃ (M : List (List Int)), IntssS w v M ∧ ∀ l ∈ M, ∀ x ∈ l, -9223372036854775808 ≤ x ∧ x ≤ 9223372036854775807 := by
  obtain ⟨a, len, cap, rfl⟩ := okWide_slice ht hv
  obtain ⟨fuel, hf⟩ := h
  rcases Go.Deep.open_int_rows ht he hq ce cq hf with ⟨hcs, _⟩ | ⟨a', len', cap', A, L, C, Z, hcs, _, hl, hm, _, hx⟩
  · simp [Value.cells] at hcs
    obtain ⟨rfl, rfl, rfl⟩ := hcs
    exact ⟨[], ⟨none, 0, rfl, fun _ => rfl, fun h => absurd h (by simp)⟩, by simp⟩
  · simp [Value.cells] at hcs
    obtain ⟨rfl, rfl, rfl⟩ := hcs
    refine ⟨(List.range len).map fun r => (Z r).take (L r), ⟨some a', cap, by simp, (fun h => by cases h), fun h0 => ?_⟩, fun l hlm x hxl => ?_⟩
    · simp at h0
      obtain ⟨b, off, spot⟩ := a'
      have hspot : spot = none := by simpa [Addr.add] using World.cell?_spot (hx 0 (by omega)).1
      subst hspot
      refine ⟨b, off, rfl, fun j l hj => ?_⟩
      have hj' : j < len := by have := (List.getElem?_eq_some_iff.1 hj).1; simpa using this
      have hy : l = (Z j).take (L j) := by simpa [hj'] using hj.symm
      obtain ⟨c1, c2, c3, c4, c5, c6, c7⟩ := hx j (by omega)
      rw [addr_none] at c1
      have hll : l.length = L j := by rw [hy, List.length_take]; omega
      refine ⟨_, c1, ⟨⟨A j, C j, by rw [hll], by omega, by simpa [maxLen] using c3, fun hp => ?_⟩, fun c hc => ?_⟩⟩
      · cases hA : A j with
        | none => have := c6 hA; omega
        | some a2 =>
          obtain ⟨_, c8⟩ := c7 a2 hA
          obtain ⟨b2, off2, spot2⟩ := a2
          have hs2 : spot2 = none := by simpa [Addr.add] using World.cell?_spot (c8 0 (by omega))
          subst hs2
          have c9 : ∀ i, i < C j → w.cell? ⟨b2, off2 + i, none⟩ = some (.int .i64 ((Z j).getD i 0)) := fun i hi => by have := c8 i hi; rwa [addr_none] at this
          refine ⟨b2, off2, rfl, World.block_lt_of_cell? _ _ (c9 0 (by omega)), fun i x hi => ?_⟩
          have hi' : i < l.length := (List.getElem?_eq_some_iff.1 hi).1
          have h2 : (Z j)[i]? = some x := by rw [← hi, hy, List.getElem?_take, if_pos (by omega)]
          rw [c9 i (by omega)]
          simp [List.getD_eq_getElem?_getD, h2]
      · have e1 : A j = none := by injection hc
        have e2 : C j = c := by injection hc
        rw [← e2]
        exact c6 e1
    · obtain ⟨j, hj, rfl⟩ := List.mem_map.1 hlm
      obtain ⟨_, _, _, _, c5, _, _⟩ := hx j (by have := List.mem_range.1 hj; omega)
      exact int_bounds (c5 x (List.mem_of_mem_take hxl))
def AllF (F : Nat → Option Blk2) : List Value → List (List Int) → Prop
  | [], [] => True
  | v :: vs, l :: M => SlF F 1 v l.length (l.map (Value.int .i64)) ∧ AllF F vs M
  | _, _ => False
theorem AllF.le {F F' : Nat → Option Blk2} (k : Le F F') : ∀ {vs : List Value} {M : List (List Int)}, AllF F vs M → AllF F' vs M
  | [], [], _ => trivial
  | _ :: _, _ :: _, h => ⟨h.1.le k, AllF.le k h.2⟩
theorem AllF.len {F : Nat → Option Blk2} : ∀ {vs : List Value} {M : List (List Int)}, AllF F vs M → vs.length = M.length
  | [], [], _ => rfl
  | _ :: _, _ :: _, h => congrArg (· + 1) (AllF.len h.2)
theorem AllF.get {F : Nat → Option Blk2} : ∀ {vs : List Value} {M : List (List Int)} {i : Nat}, AllF F vs M → i < M.length → SlF F 1 (vs.getD i undef) (M.getD i []).length ((M.getD i []).map (Value.int .i64))
  | [], [], i, _, hi => absurd hi (Nat.not_lt_zero _)
  | _ :: _, _ :: _, 0, h, _ => h.1
  | _ :: _, _ :: _, i + 1, h, hi => AllF.get (i := i) h.2 (by simpa using hi)
theorem inner_rows {w : World} : ∀ (M : List (List Int)) (val : Nat → Value) (_ : ∀ (j : Nat) l, M[j]? = some l → IntsS w (val j) l) (k : Nat), ∃ (rs : List ARow) (us : List Value), us.length = M.length ∧
      (∀ μ : Mu, (∀ (i : Nat) r, rs[i]? = some r → μ (64 + (k + i)) = some ⟨r.blk, r.sh, r.cs.length, 0, 0⟩) → (∀ (i : Nat) u, us[i]? = some u → VRel μ u (val i)) ∧ ∀ (i : Nat) r, rs[i]? = some r → ∀ (a : Nat) x, r.cs[a]? = some x → ∃ x', w.cell? ⟨r.blk, r.sh + a, none⟩ = some x' ∧ VRel μ x x') ∧
      ∀ σ : Mem, (∀ (i : Nat) r, rs[i]? = some r → r.cs ≠ [] → σ.get (64 + (k + i)) = some (.row ⟨r.cs, 0, true⟩)) → AllF σ.get us M
  | [], _, _, _ => ⟨[], [], rfl, fun _ _ => ⟨fun i u h => by simp at h, fun i r h => by simp at h⟩, fun _ _ => trivial⟩
  | l :: M, val, h, k => by
    obtain ⟨r, u, p1, q1, s1⟩ := arg_intsF (h 0 l rfl) k
    obtain ⟨rs, us, h0, h1, h2⟩ := inner_rows M (fun j => val (j + 1)) (fun j x hj => h (j + 1) x (by simpa using hj)) (k + 1)
    refine ⟨r :: rs, u :: us, by simp [h0], fun μ hm => ?_, fun σ hr => ?_⟩
    · have m0 := hm 0 r rfl
      obtain ⟨g1, g2⟩ := h1 μ fun i r' hi => by have := hm (i + 1) r' (by simpa using hi); rwa [show k + (i + 1) = k + 1 + i by omega] at this
      refine ⟨fun i x hx => ?_, fun i r' hi a x hx => ?_⟩
      · cases i with
        | zero => cases hx; exact p1 μ m0
        | succ i => exact g1 i x (by simpa using hx)
      · cases i with
        | zero =>
          cases hi
          obtain ⟨z, k1, rfl⟩ := q1 a x hx
          exact ⟨_, k1, .flat _ rfl⟩
        | succ i => exact g2 i r' (by simpa using hi) a x hx
    · exact ⟨s1 σ (hr 0 r rfl), h2 σ fun i r' hi => by have := hr (i + 1) r' (by simpa using hi); rwa [show k + (i + 1) = k + 1 + i by omega] at this⟩
theorem arg_intssF {w : World} {v : Value} {M : List (List Int)} (hh : IntssS w v M) : ∃ (rs : List ARow) (u : Value),
      (∀ μ : Mu, (∀ (i : Nat) r, rs[i]? = some r → μ (64 + i) = some ⟨r.blk, r.sh, r.cs.length, 0, 0⟩) → VRel μ u v ∧ ∀ (i : Nat) r, rs[i]? = some r → ∀ (a : Nat) x, r.cs[a]? = some x → ∃ x', w.cell? ⟨r.blk, r.sh + a, none⟩ = some x' ∧ VRel μ x x') ∧
      ∀ σ : Mem, (∀ (i : Nat) r, rs[i]? = some r → r.cs ≠ [] → σ.get (64 + i) = some (.row ⟨r.cs, 0, true⟩)) → ∃ vs, SlF σ.get 1 u M.length vs ∧ AllF σ.get vs M := by
  obtain ⟨A, c, rfl, hn, hA⟩ := hh
  by_cases h0 : 0 < M.length
  · obtain ⟨b, off, rfl, hc⟩ := hA h0
    obtain ⟨rs, us, hu, h1, h2⟩ := inner_rows (w := w) M (fun j => (w.cell? ⟨b, off + j, none⟩).getD undef) (fun j l hj => by obtain ⟨u, k1, k2⟩ := hc j l hj; rw [k1]; exact k2) 1
    refine ⟨⟨b, off, us⟩ :: rs, .slice (some ⟨64, 0, none⟩) M.length c, fun μ hm => ?_, fun σ hr => ⟨us, ?_, ?_⟩⟩
    · have m0 := hm 0 _ rfl
      obtain ⟨g1, g2⟩ := h1 μ fun i r' hi => by have := hm (i + 1) r' (by simpa using hi); rwa [show i + 1 = 1 + i by omega] at this
      refine ⟨?_, fun i r' hi a x hx => ?_⟩
      · have := VRel.sliceE (μ := μ) (64 + 0) 0 M.length c _ m0
        simpa using this
      · cases i with
        | zero =>
          cases hi
          have ha : a < M.length := by rw [← hu]; exact (List.getElem?_eq_some_iff.1 hx).1
          obtain ⟨z, k1, _⟩ := hc a _ (List.getElem?_eq_getElem ha)
          have := g1 a x hx
          rw [k1] at this
          exact ⟨z, k1, this⟩
        | succ i => exact g2 i r' (by simpa using hi) a x hx
    · have hr := hr 0 _ rfl (by intro e; have e : us = [] := e; rw [e] at hu; simp at hu; omega)
      exact .some hr (by rw [hu, Nat.mul_one]) (by rw [List.drop_zero, Nat.mul_one]; exact List.take_of_length_le (by rw [hu]; exact Nat.le_refl _))
    · exact h2 σ fun i r' hi => by have := hr (i + 1) r' (by simpa using hi); rwa [show i + 1 = 1 + i by omega] at this
  · obtain rfl : M = [] := List.length_eq_zero_iff.1 (by omega)
    cases A with
    | none =>
      obtain rfl := hn rfl
      exact ⟨[], .slice none 0 0, fun μ _ => ⟨.flat _ rfl, fun i r h => by simp at h⟩, fun σ _ => ⟨[], .nil _ rfl, trivial⟩⟩
    | some x => exact ⟨[], .chan (some c), fun μ _ => ⟨.void x c, fun i r h => by simp at h⟩, fun σ _ => ⟨[], .void _ _ rfl, trivial⟩⟩
end Go.Proofs.YthemeeiedlbhkaaGreatDoor
