/-
  ListsKeep answers true in every world in which its arguments lie. Conditions: the tables of unicode/utf8 lie as laid.
-/
import Derived.Test.YtehcckhdppdkcaaGreatDoorLk
import Derived.Test.YtehcckhdppdkcaaGreatDoorOpenL
import Derived.Test.YtehcckhdppdkcaaGreatDoorS3
namespace Go.Proofs.YtehcckhdppdkcaaGreatDoor
open Go.RowKit
set_option maxRecDepth 100000

/-- A law's slice of words, as the second memory has it. -/
theorem arg_words {w : World} {v : Value} {l : List Wd} (h : WordsA w v l) (k : Nat) :
    ∃ (r : ARow) (v2 : Value), (∀ μ : Mu, μ (64 + k) = some ⟨r.blk, r.sh, r.cs.length, 0, 0⟩ → VRel μ v2 v) ∧ (∀ (i : Nat) u, r.cs[i]? = some u → ∃ x, w.cell? ⟨r.blk, r.sh + i, none⟩ = some (.int .i64 x) ∧ u = .int .i64 x) ∧
      ∀ (G : Nat) (σ : Mem), (r.cs ≠ [] → σ.get (64 + k) = some (.row ⟨r.cs, 0, true⟩)) → AW G σ v2 l := by
  obtain ⟨A, c, rfl, hn, hA⟩ := h
  by_cases h0 : 0 < l.length
  · obtain ⟨b, off, rfl, hc⟩ := hA h0
    have hwl := wdC_length l
    refine ⟨⟨b, off, wdC l⟩, .slice (some ⟨64 + k, 0, none⟩) l.length c, fun μ hm => ?_, fun i u hu => ?_, fun G σ hr => ?_⟩
    · have := VRel.sliceE (μ := μ) (64 + k) 0 l.length c _ hm
      simpa using this
    · have hi : i < (wdC l).length := (List.getElem?_eq_some_iff.1 hu).1
      rcases Nat.mod_two_eq_zero_or_one i with h2 | h2
      · have hj : i / 2 < l.length := by omega
        have g := (wdC_get l (i / 2) hj).1
        rw [show i / 2 * 2 = i by omega, hu] at g
        have c1 := (hc (i / 2) _ (List.getElem?_eq_getElem hj)).1
        rw [show i / 2 * 2 = i by omega] at c1
        exact ⟨_, c1, Option.some.inj g⟩
      · have hj : i / 2 < l.length := by omega
        have g := (wdC_get l (i / 2) hj).2
        rw [show i / 2 * 2 + 1 = i by omega, hu] at g
        have c1 := (hc (i / 2) _ (List.getElem?_eq_getElem hj)).2
        rw [show off + i / 2 * 2 + 1 = off + i by omega] at c1
        exact ⟨_, c1, Option.some.inj g⟩
    · have hr := hr (by intro e; show False; have e : wdC l = [] := e; rw [e] at hwl; simp at hwl; omega)
      refine ⟨⟨?_, fun _ => .some hr hwl fun i x hi => by simpa using hi⟩, rfl, ?_⟩
      · unfold lenF
        rw [show uT Tryz.prog 29 = some (.slice 37) by kernel_rfl]
      · unfold srcF
        simp only [if_neg (show ¬ l.length = 0 by omega), hr]
        rw [if_pos (by rw [hwl]; omega), List.drop_zero, ← hwl, List.take_length]
  · obtain rfl : l = [] := List.length_eq_zero_iff.1 (by omega)
    cases A with
    | none =>
      obtain rfl := hn rfl
      exact ⟨⟨0, 0, []⟩, .slice none 0 0, fun μ _ => .flat _ rfl, fun i u hu => by simp at hu, fun G σ _ => ⟨⟨by kernel_rfl, fun h => absurd h (by simp)⟩, rfl, rfl⟩⟩
    | some x => exact ⟨⟨0, 0, []⟩, .chan (some c), fun μ _ => .void x c, fun i u hu => by simp at hu, fun G σ _ => ⟨⟨by kernel_rfl, fun h => absurd h (by simp)⟩, rfl, rfl⟩⟩
theorem keep_any (v1 v2 : Value) (l1 l2 : List Wd) (n : Int) (w : World) (hT : Tabs w) (i1 : WordsA w v1 l1) (i2 : WordsA w v2 l2) (hn1 : -9223372036854775808 ≤ n) (hn2 : n ≤ 9223372036854775807) :
    Calls Tryz.prog 4 #[v1, v2, .int .i64 n] w fun e w' => e = .returned (.bool true) ∧ Below w.heap.size w w' := by
  obtain ⟨r1, u1, p1, q1, s1⟩ := arg_words i1 0
  obtain ⟨r2, u2, p2, q2, s2⟩ := arg_words i2 1
  have h64 : ∀ g cs, (g, cs) ∈ rowsU → g < 64 := fun g cs hm => Nat.lt_of_lt_of_le (rowsU_low g cs hm) (by decide)
  have hnd : (rowsU.map (·.1)).Nodup := by unfold rowsU; simp
  have hA : ∀ (k : Nat) (r : ARow), [r1, r2][k]? = some r → (r.cs ≠ [] → (argMem rowsU [r1, r2]).get (64 + k) = some (.row ⟨r.cs, 0, true⟩)) := fun k r hr hc => argMem_at hr hc
  obtain ⟨v, σ', hS, rfl⟩ := keep_wc (G := 66) (σ0 := argMem rowsU [r1, r2]) (Nat.le_refl _) (s1 66 _ (hA 0 r1 rfl)) (s2 66 _ (hA 1 r2 rfl)) hn1 hn2 (by decide) (argMem_tab hnd h64) rfl
  refine arg_calls (rows := [r1, r2]) (args := #[u1, u2, .int .i64 n]) (cargs := #[v1, v2, .int .i64 n]) (rowsU_lie hT) h64 (fun k r hr i u hu => ?_) ⟨rfl, fun i x x' h1 h2 => ?_⟩ hS rfl
  · have key : ∃ x, w.cell? ⟨r.blk, r.sh + i, none⟩ = some (.int .i64 x) ∧ u = .int .i64 x := by
      match k, hr with
      | 0, hr => cases hr; exact q1 i u hu
      | 1, hr => cases hr; exact q2 i u hu
      | k + 2, hr => simp at hr
    obtain ⟨x, k1, rfl⟩ := key
    exact ⟨_, k1, .flat _ rfl⟩
  · match i, h1, h2 with
    | 0, h1, h2 => cases h1; cases h2; exact p1 _ (argMu_at (k := 0) (rows := [r1, r2]) rfl)
    | 1, h1, h2 => cases h1; cases h2; exact p2 _ (argMu_at (k := 1) (rows := [r1, r2]) rfl)
    | 2, h1, h2 => cases h1; cases h2; exact .flat _ rfl
    | i + 3, h1, _ => simp at h1
end Go.Proofs.YtehcckhdppdkcaaGreatDoor
