/-
  Lists in a heap, in plain words: what is built, what a chain of conses is, rings. No walk in this text. Conditions: none.
-/
import Derived.Test.YtaaebeiigkhcjaaDoorHg
namespace Go.Proofs.YtaaebeiigkhcjaaDoor
set_option maxRecDepth 100000

/-- The first n conses from c 0 on hold a 0, a 1, ..; each one's tail is the next. -/
def Path (m : HM) (c a : Nat → Wd) (n : Nat) : Prop := ∀ j, j < n → m.find (c j) = some (.pair (a j) (c (j + 1)))
theorem Path.kind {m : HM} {c a : Nat → Wd} {n j : Nat} (h : Path m c a n) (hj : j < n) : (c j).1 = 2 := ((HM.find_mem (h j hj)).2.2).symm
theorem find_at {m : HM} {i : Nat} {a d : Wd} (h : m.objs[i]? = some (some (.pair a d))) : m.find (2, (i : Int)) = some (.pair a d) := by
  have h1 : ¬ (i : Int) < 0 := by omega
  simp [HM.find, h1, h, HObj.kind]
theorem car_of {m : HM} {x a d : Wd} (h : m.find x = some (.pair a d)) : m.car x = (a, 0) := by simp [HM.car, h]
theorem cdr_of {m : HM} {x a d : Wd} (h : m.find x = some (.pair a d)) : m.cdr x = (d, 0) := by simp [HM.cdr, h]
/-- A heap of conses. -/
def Conses (m : HM) : Prop := ∀ (i : Nat) (o : HObj), m.objs[i]? = some (some o) → ∃ a d, o = .pair a d
/-- What build leaves after j conses: the last element first. -/
def bld (m : HM) (l : List Wd) (t : Wd) : Nat → HM × Wd
  | 0 => (m, t)
  | j + 1 => ((bld m l t j).1.push (.pair (l.getD (l.length - 1 - j) (0, 0)) (bld m l t j).2), (2, ((bld m l t j).1.objs.length : Int)))
theorem bld_is (m : HM) (l : List Wd) (t : Wd) : ∀ j, (bld m l t j).1 = { m with objs := m.objs ++ (List.range j).map fun i => some (.pair (l.getD (l.length - 1 - i) (0, 0)) (if i = 0 then t else (2, ((m.objs.length + i - 1 : Nat) : Int)))) } ∧ (bld m l t j).2 = if j = 0 then t else (2, ((m.objs.length + j - 1 : Nat) : Int))
  | 0 => by simp [bld]
  | j + 1 => by
    obtain ⟨h1, h2⟩ := bld_is m l t j
    refine ⟨?_, ?_⟩
    · simp only [bld, HM.push]
      rw [h1, h2]
      simp [List.range_succ]
    · simp only [bld]
      rw [h1]
      simp
theorem bld_many {m : HM} (l : List Wd) (t : Wd) (j : Nat) : (bld m l t j).1.many = m.many + j := by
  rw [(bld_is m l t j).1]
  unfold HM.many
  simp only [List.filter_append, List.length_append]
  congr 1
  rw [List.filter_eq_self.2]
  · simp
  · intro a ha
    obtain ⟨i, _, rfl⟩ := List.mem_map.1 ha
    rfl
theorem bld_limit {m : HM} (l : List Wd) (t : Wd) (j : Nat) : (bld m l t j).1.limit = m.limit := by rw [(bld_is m l t j).1]
theorem bld_free {m : HM} (l : List Wd) (t : Wd) (j : Nat) : (bld m l t j).1.free = m.free := by rw [(bld_is m l t j).1]
theorem bld_get {m : HM} (l : List Wd) (t : Wd) {n i : Nat} (hi : i < n) : (bld m l t n).1.objs[m.objs.length + i]? = some (some (.pair (l.getD (l.length - 1 - i) (0, 0)) (if i = 0 then t else (2, ((m.objs.length + i - 1 : Nat) : Int))))) := by
  rw [(bld_is m l t n).1]
  simp only
  rw [List.getElem?_append_right (by omega), List.getElem?_map, show m.objs.length + i - m.objs.length = i by omega, List.getElem?_range hi]
  rfl
/-- The heap with all of l built on t, and the list's word. -/
def built (m : HM) (l : List Wd) (t : Wd) : HM × Wd := bld m l t l.length
/-- The j-th cons of the list that build has made. -/
def consOf (m : HM) (l : List Wd) (t : Wd) (j : Nat) : Wd := if j < l.length then (2, ((m.objs.length + l.length - 1 - j : Nat) : Int)) else t
theorem built_path (m : HM) (l : List Wd) (t : Wd) : Path (built m l t).1 (consOf m l t) (fun j => l.getD j (0, 0)) l.length := fun j hj => by
  have h := bld_get (m := m) l t (n := l.length) (i := l.length - 1 - j) (by omega)
  have h2 := find_at h
  unfold consOf
  rw [if_pos hj, show m.objs.length + l.length - 1 - j = m.objs.length + (l.length - 1 - j) by omega]
  unfold built
  rw [h2, show l.length - 1 - (l.length - 1 - j) = j by omega]
  congr 2
  by_cases h3 : j + 1 < l.length
  · rw [if_neg (by omega), if_pos h3]
    congr 2
    omega
  · rw [if_pos (by omega), if_neg h3]
theorem built_word (m : HM) (l : List Wd) (t : Wd) : (built m l t).2 = consOf m l t 0 := by
  unfold built consOf
  rw [(bld_is m l t l.length).2]
  by_cases h : l.length = 0
  · rw [if_pos h, if_neg (by omega)]
  · rw [if_neg h, if_pos (by omega)]
    congr 2
theorem built_end (m : HM) (l : List Wd) (t : Wd) : consOf m l t l.length = t := by unfold consOf; rw [if_neg (by omega)]
end Go.Proofs.YtaaebeiigkhcjaaDoor
