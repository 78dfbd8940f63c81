/-
  ListsTaken answers true in every world in which its arguments lie. Conditions: the tables of unicode/utf8 lie as laid.
-/
import Derived.Test.YtehcckhdppdkcaaGreatDoorMg
import Derived.Test.YtehcckhdppdkcaaGreatDoorOpen
import Derived.Test.YtehcckhdppdkcaaGreatDoorS3
namespace Go.Proofs.YtehcckhdppdkcaaGreatDoor
open Go.RowKit
set_option maxRecDepth 100000
/-- A law's slice of numbers, as the second memory has it. -/
theorem arg_intsI {w : World} {v : Value} {xs : List Int} (h : Ints w w.heap.size v xs) (hb : ∀ x ∈ xs, -9223372036854775808 ≤ x ∧ x ≤ 9223372036854775807) (k : Nat) :
    ∃ (r : ARow) (v2 : Value), (∀ μ : Mu, μ (64 + k) = some ⟨r.blk, r.sh, r.cs.length, 0, 0⟩ → VRel μ v2 v) ∧ (∀ (i : Nat) u, r.cs[i]? = some u → ∃ x, w.cell? ⟨r.blk, r.sh + i, none⟩ = some (.int .i64 x) ∧ u = .int .i64 x) ∧
      ∀ (G : Nat) (σ : Mem), 64 + k < G → (r.cs ≠ [] → σ.get (64 + k) = some (.row ⟨r.cs, 0, true⟩)) → ArgI G σ v2 xs := by
  obtain ⟨A, c, rfl, h1, h2, h3⟩ := h
  cases xs with
  | nil =>
    cases A with
    | none => exact ⟨⟨0, 0, []⟩, .slice none 0 c, fun μ _ => .flat _ rfl, fun i u hu => by simp at hu, fun G σ _ _ => ⟨by kernel_rfl, fun h => absurd h (by simp), hb⟩⟩
    | some x => exact ⟨⟨0, 0, []⟩, .chan (some c), fun μ _ => .void x c, fun i u hu => by simp at hu, fun G σ _ _ => ⟨by kernel_rfl, fun h => absurd h (by simp), hb⟩⟩
  | cons y ys =>
    obtain ⟨b, off, rfl, _, hc⟩ := h3 (by simp)
    refine ⟨⟨b, off, (y :: ys).map (Value.int .i64)⟩, .slice (some ⟨64 + k, 0, none⟩) (y :: ys).length c, fun μ hm => ?_, fun i u hu => ?_, fun G σ hG hr => ⟨?_, fun _ => ⟨64 + k, c, _, rfl, hG, hr (by simp), fun j x hx => ?_⟩, hb⟩⟩
    · have := VRel.sliceE (μ := μ) (64 + k) 0 (y :: ys).length c _ hm
      simpa using this
    · rw [List.getElem?_map] at hu
      cases hx : (y :: ys)[i]? with
      | none => rw [hx] at hu; cases hu
      | some x =>
        rw [hx] at hu
        cases hu
        exact ⟨x, hc i x hx, rfl⟩
    · unfold lenF
      rw [show uT Tryz.prog 61 = some (.slice 3) by kernel_rfl]
    · show ((y :: ys).map (Value.int .i64))[j]? = _
      rw [List.getElem?_map, hx]
      rfl
theorem taken_any (v : Value) (l : List Int) (x : Int) (w : World) (hT : Tabs w) (i1 : Ints w w.heap.size v l) (b1 : ∀ x ∈ l, -9223372036854775808 ≤ x ∧ x ≤ 9223372036854775807) (hx1 : -9223372036854775808 ≤ x) (hx2 : x ≤ 9223372036854775807) :
    Calls Tryz.prog 6 #[v, .int .i64 x] w fun e w' => e = .returned (.bool true) ∧ Below w.heap.size w w' := by
  obtain ⟨r1, u1, p1, q1, s1⟩ := arg_intsI i1 b1 0
  have h64 : ∀ g cs, (g, cs) ∈ rowsU → g < 64 := fun g cs hm => Nat.lt_of_lt_of_le (rowsU_low g cs hm) (by decide)
  have hnd : (rowsU.map (·.1)).Nodup := by unfold rowsU; simp
  have hA : ∀ (k : Nat) (r : ARow), [r1][k]? = some r → (r.cs ≠ [] → (argMem rowsU [r1]).get (64 + k) = some (.row ⟨r.cs, 0, true⟩)) := fun k r hr hc => argMem_at hr hc
  obtain ⟨v', σ', hS, rfl⟩ := taken_wc (G := 65) (σ0 := argMem rowsU [r1]) (Nat.le_refl _) (s1 65 _ (by decide) (hA 0 r1 rfl)) hx1 hx2 (by decide) (argMem_tab hnd h64) rfl
  refine arg_calls (rows := [r1]) (args := #[u1, .int .i64 x]) (cargs := #[v, .int .i64 x]) (rowsU_lie hT) h64 (fun k r hr i u hu => ?_) ⟨rfl, fun i y y' h1 h2 => ?_⟩ hS rfl
  · have key : ∃ x, w.cell? ⟨r.blk, r.sh + i, none⟩ = some (.int .i64 x) ∧ u = .int .i64 x := by
      match k, hr with
      | 0, hr => cases hr; exact q1 i u hu
      | k + 1, hr => simp at hr
    obtain ⟨x, k1, rfl⟩ := key
    exact ⟨_, k1, .flat _ rfl⟩
  · match i, h1, h2 with
    | 0, h1, h2 => cases h1; cases h2; exact p1 _ (argMu_at (k := 0) (rows := [r1]) rfl)
    | 1, h1, h2 => cases h1; cases h2; exact .flat _ rfl
    | i + 2, h1, _ => simp at h1
end Go.Proofs.YtehcckhdppdkcaaGreatDoor
