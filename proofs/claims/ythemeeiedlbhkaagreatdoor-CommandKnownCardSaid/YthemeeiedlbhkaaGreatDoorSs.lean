/-
  Lists by their recursors: what the kernel reckons fast. Over any program. Conditions: none.
-/
import Derived.Test.YthemeeiedlbhkaaGreatDoorSq
namespace Go.Proofs.YthemeeiedlbhkaaGreatDoor
variable {P : Program} {G : Nat}

noncomputable def nthL {α : Type} (l : List α) : Nat → Option α :=
  List.rec (motive := fun _ => Nat → Option α) (fun _ => none) (fun a _ ih k => Nat.rec (motive := fun _ => Option α) (some a) (fun k _ => ih k) k) l
theorem nthL_eq {α : Type} : ∀ (l : List α) (k : Nat), nthL l k = l[k]?
  | [], k => by simp [nthL]
  | a :: l, 0 => rfl
  | a :: l, k + 1 => by show nthL l k = _; rw [nthL_eq l k]; simp
noncomputable def lenR {α : Type} (l : List α) : Nat := List.rec (motive := fun _ => Nat) 0 (fun _ _ n => Nat.add n 1) l
theorem lenR_eq {α : Type} : ∀ (l : List α), lenR l = l.length
  | [] => rfl
  | a :: l => by show lenR l + 1 = _; rw [lenR_eq l]; rfl
noncomputable def setR {α : Type} (l : List α) (v : α) : Nat → List α :=
  List.rec (motive := fun _ => Nat → List α) (fun _ => []) (fun c t ih k => Nat.rec (motive := fun _ => List α) (v :: t) (fun k _ => c :: ih k) k) l
theorem setR_eq {α : Type} (v : α) : ∀ (l : List α) (k : Nat), setR l v k = l.set k v
  | [], k => by simp [setR]
  | a :: l, 0 => rfl
  | a :: l, k + 1 => by show a :: setR l v k = _; rw [setR_eq v l k]; rfl
noncomputable def overR {α : Type} (vs : List α) : Nat → List α → List α :=
  List.rec (motive := fun _ => Nat → List α → List α) (fun _ cs => cs) (fun v _ ih k cs => ih (Nat.add k 1) (setR cs v k)) vs
theorem overR_eq {off : Nat} : ∀ (l : List Value) (k : Nat) (cs : Array Value), ((l.zipIdx k).foldl (fun (cs : Array Value) (x : Value × Nat) => cs.setIfInBounds (off + x.2) x.1) cs).toList = overR l (off + k) cs.toList
  | [], k, cs => rfl
  | v :: l, k, cs => by
    rw [List.zipIdx_cons, List.foldl_cons, overR_eq l (k + 1)]
    show _ = overR l (off + k + 1) (setR cs.toList v (off + k))
    rw [setR_eq, Array.toList_setIfInBounds, Nat.add_assoc]
noncomputable def allR {α : Type} (p : α → Bool) (l : List α) : Bool := List.rec (motive := fun _ => Bool) true (fun a _ ih => cond (p a) ih false) l
theorem allR_eq {α : Type} (p : α → Bool) : ∀ (l : List α), allR p l = l.all p
  | [] => rfl
  | a :: l => by
    show cond (p a) (allR p l) false = _
    rw [allR_eq p l, List.all_cons]
    cases p a <;> rfl
noncomputable def fillL (place : Nat → Option (Nat × Nat)) (ps : List (Nat × Value)) : List Value → Option (List Value) :=
  List.rec (motive := fun _ => List Value → Option (List Value)) (fun cs => some cs) (fun x _ ih cs => match place x.1 with
    | none => none
    | some (off, size) => cond (cond (Nat.beq (lenR x.2.cells.toList) size) (Nat.ble (Nat.add off (lenR x.2.cells.toList)) (lenR cs)) false) (ih (overR x.2.cells.toList off cs)) none) ps
theorem fillL_eq (place : Nat → Option (Nat × Nat)) : ∀ (ps : List (Nat × Value)) (cs : Array Value), fillL place ps cs.toList = (Instr.fill place cs ps).map (·.toList)
  | [], cs => rfl
  | (i, v) :: ps, cs => by
    show (match place i with
      | none => none
      | some (off, size) => cond (cond (Nat.beq (lenR v.cells.toList) size) (Nat.ble (off + lenR v.cells.toList) (lenR cs.toList)) false) (fillL place ps (overR v.cells.toList off cs.toList)) none) = _
    unfold Instr.fill
    cases place i with
    | none => rfl
    | some x =>
      obtain ⟨off, size⟩ := x
      simp only [lenR_eq, Array.length_toList]
      have e : overR v.cells.toList off cs.toList = (v.cells.zipIdx.foldl (fun (cs : Array Value) (x : Value × Nat) => cs.setIfInBounds (off + x.2) x.1) cs).toList := by
        rw [← Array.foldl_toList, Array.toList_zipIdx, overR_eq]; rfl
      rw [e, fillL_eq place ps]
      by_cases h1 : v.cells.size = size
      · by_cases h2 : off + v.cells.size ≤ cs.size
        · have a1 : Nat.beq v.cells.size size = true := by rw [Nat.beq_eq]; exact h1
          have a2 : Nat.ble (off + v.cells.size) cs.size = true := by rw [Nat.ble_eq]; exact h2
          have a3 : ¬ (off + v.cells.size > cs.size) := by omega
          simp only [a1, a2, cond_true]
          rw [if_neg (by simp [h1]; omega)]
        · have a1 : Nat.beq v.cells.size size = true := by rw [Nat.beq_eq]; exact h1
          have a2 : Nat.ble (off + v.cells.size) cs.size = false := by cases hb : Nat.ble (off + v.cells.size) cs.size with | false => rfl | true => rw [Nat.ble_eq] at hb; exact absurd hb h2
          simp only [a1, a2, cond_true, cond_false]
          rw [if_pos (by simp; right; omega)]
          rfl
      · have a1 : Nat.beq v.cells.size size = false := by cases hb : Nat.beq v.cells.size size with | false => rfl | true => rw [Nat.beq_eq] at hb; exact absurd hb h1
        simp only [a1, cond_false]
        rw [if_pos (by simp [h1])]
        rfl
/-- A struct or an array built. -/
noncomputable def buildL (P : Program) (t : TypeId) (ps : List (Nat × Value)) : Option Value :=
  match zeroT P t, uT P t with
  | some z, some (.struct fs) => cond (closedV 2 z) (match placesF P fs with
      | some pl => (match fillL (nthL pl.toList) ps z.cells.toList with | some cs => some (.agg cs.toArray) | none => none)
      | none => none) none
  | some z, some (.array _ e) => cond (closedV 2 z) (match sizeT P e with
      | some s => (match fillL (fun i => some (i * s, s)) ps z.cells.toList with | some cs => some (.agg cs.toArray) | none => none)
      | none => none) none
  | _, _ => none
theorem buildL_eq {t : TypeId} {ps : List (Nat × Value)} {v : Value} (h : buildL P t ps = some v) : buildF P t ps = some v := by
  unfold buildL at h
  try simp only [uT_eq] at h
  unfold buildF
  try simp only [uT_eq]
  split at h
  · rename_i z fs hz hu
    rw [hz, hu]
    cases hc : closedV 2 z with
    | false => rw [hc] at h; cases h
    | true =>
      rw [hc] at h
      simp only [cond_true] at h
      simp only [hc, if_true]
      split at h
      · rename_i pl hpl
        have e : nthL pl.toList = (pl[·]?) := funext fun k => by rw [nthL_eq]; simp
        rw [e, fillL_eq] at h
        rw [hpl]
        cases hf : Instr.fill (pl[·]?) z.cells ps with
        | none => rw [hf] at h; cases h
        | some cs => rw [hf] at h; cases h; simp [hf]
      · cases h
  · rename_i z n e hz hu
    rw [hz, hu]
    cases hc : closedV 2 z with
    | false => rw [hc] at h; cases h
    | true =>
      rw [hc] at h
      simp only [cond_true] at h
      simp only [hc, if_true]
      split at h
      · rename_i s hs
        rw [fillL_eq] at h
        rw [hs]
        cases hf : Instr.fill (fun i => some (i * s, s)) z.cells ps with
        | none => rw [hf] at h; cases h
        | some cs => rw [hf] at h; cases h; simp [hf]
      · cases h
  · cases h
theorem setR_over {cs : List Value} {c : Value} {p : Nat} (h : p < cs.length) : setR cs c p = overL cs p [c] := by
  rw [setR_eq, List.set_eq_take_append_cons_drop, if_pos h]
  simp [overL]
end Go.Proofs.YthemeeiedlbhkaaGreatDoor
