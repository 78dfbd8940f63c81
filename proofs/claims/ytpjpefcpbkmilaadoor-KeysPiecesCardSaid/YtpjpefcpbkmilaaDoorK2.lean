/-
  A slice of numbers among a law's arguments, in the second memory; nil has no room. Conditions: none.
-/
import Derived.Test.YtpjpefcpbkmilaaDoorK1
import Derived.Test.YtpjpefcpbkmilaaDoorOpen
import Derived.Test.YtpjpefcpbkmilaaDoorS3
namespace Go.Proofs.YtpjpefcpbkmilaaDoor
open Go.ChangeShapes Go.WideShapes Go.ChangeAt Go.RowKit
set_option maxRecDepth 100000
def IntsS (w : World) (v : Value) (xs : List Int) : Prop := Ints w w.heap.size v xs ∧ ∀ c, v = .slice none 0 c → c = 0
theorem open_ints0 {H : Type} {enc : TypeId × Value → H} {P : Program} {w : World} {r : Reach} {b0 : Nat} {t e : TypeId} {v : Value} {d : DataW H} {p : List MemPlace}
    (ht : P.underlying t = some (.slice e)) (he : P.underlying e = some (.int .i64)) (hc : P.cellsOf e = 1) (hv : Value.okWide P w r b0 t v) (h : DataW.Trod enc P w 0 (fun _ => true) true t v d p) :
    ∃ (xs : List Int), IntsS w v xs ∧ ∀ x ∈ xs, -9223372036854775808 ≤ x ∧ x ≤ 9223372036854775807 := by
  obtain ⟨xs, h1, h2⟩ := open_ints_list ht he hc hv h
  refine ⟨xs, ⟨h1, fun c hv' => ?_⟩, h2⟩
  subst hv'
  obtain ⟨fuel, hf⟩ := h
  rcases open_ints ht he hc hf with ⟨hcs, _⟩ | ⟨x, l, c, zs, hcs, _⟩
  · simpa [Value.cells] using hcs
  · simp [Value.cells] at hcs
theorem arg_intsF {w : World} {v : Value} {xs : List Int} (hh : IntsS w v xs) (k : Nat) :
    ∃ (r : ARow) (v2 : Value), (∀ μ : Mu, μ (64 + k) = some ⟨r.blk, r.sh, r.cs.length, 0, 0⟩ → VRel μ v2 v) ∧ (∀ (i : Nat) u, r.cs[i]? = some u → ∃ x, w.cell? ⟨r.blk, r.sh + i, none⟩ = some (.int .i64 x) ∧ u = .int .i64 x) ∧
      ∀ (σ : Mem), (r.cs ≠ [] → σ.get (64 + k) = some (.row ⟨r.cs, 0, true⟩)) → SlF σ.get 1 v2 xs.length (xs.map (Value.int .i64)) := by
  obtain ⟨⟨A, c, rfl, h1, h2, h3⟩, h0⟩ := hh
  cases xs with
  | nil =>
    cases A with
    | none =>
      obtain rfl := h0 c rfl
      exact ⟨⟨0, 0, []⟩, .slice none 0 0, fun μ _ => .flat _ rfl, fun i u hu => by simp at hu, fun σ _ => .nil _ rfl⟩
    | some x => exact ⟨⟨0, 0, []⟩, .chan (some c), fun μ _ => .void x c, fun i u hu => by simp at hu, fun σ _ => .void _ _ rfl⟩
  | cons y ys =>
    obtain ⟨b, off, rfl, _, hc⟩ := h3 (by simp)
    refine ⟨⟨b, off, (y :: ys).map (Value.int .i64)⟩, .slice (some ⟨64 + k, 0, none⟩) (y :: ys).length c, fun μ hm => ?_, fun i u hu => ?_, fun σ hr => .some (hr (by simp)) (by simp) ?_⟩
    · have := VRel.sliceE (μ := μ) (64 + k) 0 (y :: ys).length c _ hm
      simpa using this
    · rw [List.getElem?_map] at hu
      cases hx : (y :: ys)[i]? with
      | none => rw [hx] at hu; cases hu
      | some x =>
        rw [hx] at hu
        cases hu
        exact ⟨x, hc i x hx, rfl⟩
    · rw [List.drop_zero]
      exact List.take_of_length_le (by simp)
end Go.Proofs.YtpjpefcpbkmilaaDoor
