/-
  A law's slice of pairs of numbers, as the second memory has it. No program in this text. Conditions: none.
-/
import Derived.Test.YthemeeiedlbhkaaGreatDoorY1
import Derived.Test.YthemeeiedlbhkaaGreatDoorS3
import Derived.Test.YthemeeiedlbhkaaGreatDoorS4
namespace Go.Proofs.YthemeeiedlbhkaaGreatDoor
set_option maxRecDepth 100000
theorem wdC_get' : ∀ (l : List Wd) (j : Nat) (h : j < l.length), (wdC l)[j * 2]? = some (.int .i64 l[j].1) ∧ (wdC l)[j * 2 + 1]? = some (.int .i64 l[j].2)
  | [], j, h => by cases h
  | x :: l, 0, h => ⟨rfl, rfl⟩
  | x :: l, j + 1, h => by
    have := wdC_get' l j (by simpa using h)
    rw [show (j + 1) * 2 = j * 2 + 1 + 1 by omega]
    exact this
theorem wdC_len' : ∀ l : List Wd, (wdC l).length = l.length * 2
  | [] => rfl
  | x :: l => by
    rw [show wdC (x :: l) = [.int .i64 x.1, .int .i64 x.2] ++ wdC l from rfl, List.length_append, wdC_len' l]
    show 2 + l.length * 2 = (l.length + 1) * 2
    omega
theorem arg_wordsF {w : World} {v : Value} {l : List Wd} (h : WordsA w v l) (k : Nat) :
    ∃ (r : ARow) (v2 : Value), (∀ μ : Mu, μ (64 + k) = some ⟨r.blk, r.sh, r.cs.length, 0, 0⟩ → VRel μ v2 v) ∧ (∀ (i : Nat) u, r.cs[i]? = some u → ∃ x, w.cell? ⟨r.blk, r.sh + i, none⟩ = some (.int .i64 x) ∧ u = .int .i64 x) ∧
      ∀ (σ : Mem), (r.cs ≠ [] → σ.get (64 + k) = some (.row ⟨r.cs, 0, true⟩)) → SlF σ.get 2 v2 l.length (wdC l) := by
  obtain ⟨A, c, rfl, hn, hA⟩ := h
  by_cases h0 : 0 < l.length
  · obtain ⟨b, off, rfl, hc⟩ := hA h0
    have hwl := wdC_len' l
    refine ⟨⟨b, off, wdC l⟩, .slice (some ⟨64 + k, 0, none⟩) l.length c, fun μ hm => ?_, fun i u hu => ?_, fun σ hr => ?_⟩
    · have := VRel.sliceE (μ := μ) (64 + k) 0 l.length c _ hm
      simpa using this
    · have hi : i < (wdC l).length := (List.getElem?_eq_some_iff.1 hu).1
      rcases Nat.mod_two_eq_zero_or_one i with h2 | h2
      · have hj : i / 2 < l.length := by omega
        have g := (wdC_get' l (i / 2) hj).1
        rw [show i / 2 * 2 = i by omega, hu] at g
        have c1 := (hc (i / 2) _ (List.getElem?_eq_getElem hj)).1
        rw [show i / 2 * 2 = i by omega] at c1
        exact ⟨_, c1, Option.some.inj g⟩
      · have hj : i / 2 < l.length := by omega
        have g := (wdC_get' l (i / 2) hj).2
        rw [show i / 2 * 2 + 1 = i by omega, hu] at g
        have c1 := (hc (i / 2) _ (List.getElem?_eq_getElem hj)).2
        rw [show off + i / 2 * 2 + 1 = off + i by omega] at c1
        exact ⟨_, c1, Option.some.inj g⟩
    · have hr := hr (by intro e; show False; have e : wdC l = [] := e; rw [e] at hwl; simp at hwl; omega)
      exact .some hr hwl (by rw [List.drop_zero]; exact List.take_of_length_le (by rw [hwl]; exact Nat.le_refl _))
  · obtain rfl : l = [] := List.length_eq_zero_iff.1 (by omega)
    cases A with
    | none =>
      obtain rfl := hn rfl
      exact ⟨⟨0, 0, []⟩, .slice none 0 0, fun μ _ => .flat _ rfl, fun i u hu => by simp at hu, fun σ _ => .nil _ rfl⟩
    | some x => exact ⟨⟨0, 0, []⟩, .chan (some c), fun μ _ => .void x c, fun i u hu => by simp at hu, fun σ _ => .void _ _ rfl⟩
end Go.Proofs.YthemeeiedlbhkaaGreatDoor
