/-
  HooksBack answers true in every world in which its arguments lie. Conditions: the variables null and tee lie as laid.
-/
import Derived.Test.YtaaebeiigkhcjaaGreatDoorB2
import Derived.Test.YtaaebeiigkhcjaaGreatDoorOpenK
import Derived.Test.YtaaebeiigkhcjaaGreatDoorArgI
import Derived.Test.YtaaebeiigkhcjaaGreatDoorY1
import Derived.Test.YtaaebeiigkhcjaaGreatDoorS3
namespace Go.Proofs.YtaaebeiigkhcjaaGreatDoor
open Go.ChangeShapes Go.WideShapes Go.ChangeAt Go.RowKit
set_option maxRecDepth 100000
theorem back_any (v1 v2 : Value) (l : List Int) (d : List Dk) (one : Bool) (fi dp : Int) (w : World) (hT : TabsH w) (i1 : IntsS w v1 l) (i2 : TripsA w v2 d) (b1 : ∀ x ∈ l, -9223372036854775808 ≤ x ∧ x ≤ 9223372036854775807) (b2 : ∀ x ∈ d, (-9223372036854775808 ≤ x.1 ∧ x.1 ≤ 9223372036854775807) ∧ (-9223372036854775808 ≤ x.2.1 ∧ x.2.1 ≤ 9223372036854775807)) (lo0 : -9223372036854775808 ≤ fi) (hi0 : fi ≤ 9223372036854775807) (lo1 : -9223372036854775808 ≤ dp) (hi1 : dp ≤ 9223372036854775807) :
    Calls Tryz.prog 5 #[v1, .bool one, v2, .int .i64 fi, .int .i64 dp] w fun e w' => e = .returned (.bool true) ∧ Below w.heap.size w w' := by
  obtain ⟨r1, u1, p1, q1, s1⟩ := arg_intsF i1 0
  obtain ⟨r2, u2, p2, q2, s2⟩ := arg_tripsF i2 1
  have h64 : ∀ g cs, (g, cs) ∈ rowsH → g < 64 := fun g cs hm => Nat.lt_of_lt_of_le (rowsH_low g cs hm) (by decide)
  have hnd : (rowsH.map (·.1)).Nodup := by unfold rowsH; simp
  have hA : ∀ (k : Nat) (r : ARow), [r1, r2][k]? = some r → (r.cs ≠ [] → (argMem rowsH [r1, r2]).get (64 + k) = some (.row ⟨r.cs, 0, true⟩)) := fun k r hr hc => argMem_at hr hc
  have hR : RowsAt rowsH (argMem rowsH [r1, r2]) := argMem_tab hnd h64
  obtain ⟨v, σ', hS, rfl⟩ := back_wc (one := one) (σ0 := argMem rowsH [r1, r2]) (Nat.le_refl _) (by decide) rfl hR (s1 _ (hA 0 r1 rfl)) (s2 _ (hA 1 r2 rfl)) b1 b2 lo0 hi0 lo1 hi1 (hR _ _ (by simp [rowsH])) (hR _ _ (by simp [rowsH]))
  refine arg_calls (rows := [r1, r2]) (args := #[u1, .bool one, u2, .int .i64 fi, .int .i64 dp]) (cargs := #[v1, .bool one, v2, .int .i64 fi, .int .i64 dp]) hT h64 (fun k r hr i u hu => ?_) ⟨rfl, fun i x x' h1 h2 => ?_⟩ hS rfl
  · match k, hr with
    | 0, hr =>
      cases hr
      obtain ⟨x, k1, rfl⟩ := q1 i u hu
      exact ⟨_, k1, .flat _ rfl⟩
    | 1, hr =>
      cases hr
      obtain ⟨k1, k2⟩ := q2 i u hu
      exact ⟨_, k1, .flat _ k2⟩
    | k + 2, hr => simp at hr
  · match i, h1, h2 with
    | 0, h1, h2 => cases h1; cases h2; exact p1 _ (argMu_at (k := 0) (rows := [r1, r2]) rfl)
    | 1, h1, h2 => cases h1; cases h2; exact .flat _ rfl
    | 2, h1, h2 => cases h1; cases h2; exact p2 _ (argMu_at (k := 1) (rows := [r1, r2]) rfl)
    | 3, h1, h2 => cases h1; cases h2; exact .flat _ rfl
    | 4, h1, h2 => cases h1; cases h2; exact .flat _ rfl
    | i + 5, h1, _ => simp at h1
end Go.Proofs.YtaaebeiigkhcjaaGreatDoor
