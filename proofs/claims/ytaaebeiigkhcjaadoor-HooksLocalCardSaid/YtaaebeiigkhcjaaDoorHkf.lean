/-
  HooksLocal answers true in every world in which its arguments lie. Conditions: the variables null and tee lie as laid.
-/
import Derived.Test.YtaaebeiigkhcjaaDoorHke
import Derived.Test.YtaaebeiigkhcjaaDoorOpen
import Derived.Test.YtaaebeiigkhcjaaDoorS3
namespace Go.Proofs.YtaaebeiigkhcjaaDoor
open Go.ChangeShapes Go.WideShapes Go.ChangeAt Go.RowKit
set_option maxRecDepth 100000
/-- A slice of numbers; nil has no room. -/
def IntsS (w : World) (v : Value) (xs : List Int) : Prop := Ints w w.heap.size v xs ∧ ∀ c, v = .slice none 0 c → c = 0
theorem open_ints0 {H : Type} {enc : TypeId × Value → H} {P : Program} {w : World} {r : Reach} {b0 : Nat} {t e : TypeId} {v : Value} {d : DataW H} {p : List MemPlace}
    (ht : P.underlying t = some (.slice e)) (he : P.underlying e = some (.int .i64)) (hc : P.cellsOf e = 1) (hv : Value.okWide P w r b0 t v) (h : DataW.Trod enc P w 0 (fun _ => true) true t v d p) :
    ∃ (xs : List Int), IntsS w v xs ∧ ∀ x ∈ xs, -9223372036854775808 ≤ x ∧ x ≤ 9223372036854775807 := by
  obtain ⟨xs, h1, h2⟩ := open_ints_list ht he hc hv h
  refine ⟨xs, ⟨h1, fun c hv' => ?_⟩, h2⟩
  subst hv'
  obtain ⟨fuel, hf⟩ := h
  rcases open_ints ht he hc hf with ⟨hcs, _⟩ | ⟨x, l, c, zs, hcs, _⟩
  · simpa [Value.cells] using hcs
  · simp [Value.cells] at hcs
theorem arg_intsF {w : World} {v : Value} {xs : List Int} (hh : IntsS w v xs) (k : Nat) :
    ∃ (r : ARow) (v2 : Value), (∀ μ : Mu, μ (64 + k) = some ⟨r.blk, r.sh, r.cs.length, 0, 0⟩ → VRel μ v2 v) ∧ (∀ (i : Nat) u, r.cs[i]? = some u → ∃ x, w.cell? ⟨r.blk, r.sh + i, none⟩ = some (.int .i64 x) ∧ u = .int .i64 x) ∧
      ∀ (σ : Mem), (r.cs ≠ [] → σ.get (64 + k) = some (.row ⟨r.cs, 0, true⟩)) → SlF σ.get 1 v2 xs.length (xs.map (Value.int .i64)) := by
  obtain ⟨⟨A, c, rfl, h1, h2, h3⟩, h0⟩ := hh
  cases xs with
  | nil =>
    cases A with
    | none =>
      obtain rfl := h0 c rfl
      exact ⟨⟨0, 0, []⟩, .slice none 0 0, fun μ _ => .flat _ rfl, fun i u hu => by simp at hu, fun σ _ => .nil _ rfl⟩
    | some x => exact ⟨⟨0, 0, []⟩, .chan (some c), fun μ _ => .void x c, fun i u hu => by simp at hu, fun σ _ => .void _ _ rfl⟩
  | cons y ys =>
    obtain ⟨b, off, rfl, _, hc⟩ := h3 (by simp)
    refine ⟨⟨b, off, (y :: ys).map (Value.int .i64)⟩, .slice (some ⟨64 + k, 0, none⟩) (y :: ys).length c, fun μ hm => ?_, fun i u hu => ?_, fun σ hr => .some (hr (by simp)) (by simp) ?_⟩
    · have := VRel.sliceE (μ := μ) (64 + k) 0 (y :: ys).length c _ hm
      simpa using this
    · rw [List.getElem?_map] at hu
      cases hx : (y :: ys)[i]? with
      | none => rw [hx] at hu; cases hu
      | some x =>
        rw [hx] at hu
        cases hu
        exact ⟨x, hc i x hx, rfl⟩
    · rw [List.drop_zero]
      exact List.take_of_length_le (by simp)
theorem local_any (v1 v2 : Value) (l g : List Int) (w : World) (hT : TabsH w) (i1 : IntsS w v1 l) (i2 : IntsS w v2 g) (b1 : ∀ x ∈ l, -9223372036854775808 ≤ x ∧ x ≤ 9223372036854775807) (b2 : ∀ x ∈ g, -9223372036854775808 ≤ x ∧ x ≤ 9223372036854775807) :
    Calls Tryd.prog 4 #[v1, v2] w fun e w' => e = .returned (.bool true) ∧ Below w.heap.size w w' := by
  obtain ⟨r1, u1, p1, q1, s1⟩ := arg_intsF i1 0
  obtain ⟨r2, u2, p2, q2, s2⟩ := arg_intsF i2 1
  have h64 : ∀ g cs, (g, cs) ∈ rowsH → g < 64 := fun g cs hm => Nat.lt_of_lt_of_le (rowsH_low g cs hm) (by decide)
  have hnd : (rowsH.map (·.1)).Nodup := by unfold rowsH; simp
  have hA : ∀ (k : Nat) (r : ARow), [r1, r2][k]? = some r → (r.cs ≠ [] → (argMem rowsH [r1, r2]).get (64 + k) = some (.row ⟨r.cs, 0, true⟩)) := fun k r hr hc => argMem_at hr hc
  have hR : RowsAt rowsH (argMem rowsH [r1, r2]) := argMem_tab hnd h64
  obtain ⟨v, σ', hS, rfl⟩ := local_wc (σ0 := argMem rowsH [r1, r2]) (Nat.le_refl _) (by decide) rfl hR (s1 _ (hA 0 r1 rfl)) (s2 _ (hA 1 r2 rfl)) b1 b2 (hR _ _ (by simp [rowsH])) (hR _ _ (by simp [rowsH]))
  refine arg_calls (rows := [r1, r2]) (args := #[u1, u2]) (cargs := #[v1, v2]) hT h64 (fun k r hr i u hu => ?_) ⟨rfl, fun i x x' h1 h2 => ?_⟩ hS rfl
  · have key : ∃ x, w.cell? ⟨r.blk, r.sh + i, none⟩ = some (.int .i64 x) ∧ u = .int .i64 x := by
      match k, hr with
      | 0, hr => cases hr; exact q1 i u hu
      | 1, hr => cases hr; exact q2 i u hu
      | k + 2, hr => simp at hr
    obtain ⟨x, k1, rfl⟩ := key
    exact ⟨_, k1, .flat _ rfl⟩
  · match i, h1, h2 with
    | 0, h1, h2 => cases h1; cases h2; exact p1 _ (argMu_at (k := 0) (rows := [r1, r2]) rfl)
    | 1, h1, h2 => cases h1; cases h2; exact p2 _ (argMu_at (k := 1) (rows := [r1, r2]) rfl)
    | i + 2, h1, _ => simp at h1
end Go.Proofs.YtaaebeiigkhcjaaDoor
