/-
  HeapCollect in the second memory: the roots. Conditions: none.
-/
import Derived.Test.YthmfiahmfdadgaaDoorColA
namespace Go.Proofs.YthmfiahmfdadgaaDoor
set_option maxRecDepth 100000

abbrev ints (xs : List Nat) : List Value := xs.map fun (k : Nat) => Value.int .i64 (k : Int)
/-- What lies there while the law marks. -/
structure Mid (G : Nat) (σ0 σ : Mem) (m : HM) (met : List Bool) (v12 : Value) (todo : List Nat) (v13 : Value) (fr : List Nat) : Prop where
  abs : σ.abs = heapAbs σ0.next m
  old : ∀ b y, b < G → σ0.get b = some y → σ.get b = some y
  row : σ.get (σ0.next + 1) = some (.row ⟨met.map Value.bool, 4, false⟩)
  nx : σ0.next + 2 ≤ σ.next
  td : GRow G σ 3 1 v12 todo.length (ints todo)
  fm : GRow G σ 24 2 v13 fr.length (wdC (fr.map consW))
section
variable {G : Nat} {σ0 σ : Mem} {m : HM} {met : List Bool} {v12 v13 : Value} {todo fr : List Nat}
theorem ints_one (xs : List Nat) : (ints xs).all (·.oneCell') = true := by
  rw [List.all_eq_true]
  intro x hx
  obtain ⟨k, _, rfl⟩ := List.mem_map.1 hx
  rfl
theorem Mid.ne12 (h : Mid G σ0 σ m met v12 todo v13 fr) {b : Nat} {y : Blk2} (hy : σ.get b = some y) (hb : b < G ∨ ∃ r, y = .row r ∧ r.t ≠ 3) : blkOf v12 ≠ some b := fun e => by
  rcases hb with hb | ⟨r, rfl, hr⟩
  · have := (h.td.lt e).1
    omega
  · obtain ⟨r', h1, h2⟩ := h.td.is e
    rw [hy] at h1
    cases h1
    exact hr h2
theorem Mid.ne13 (h : Mid G σ0 σ m met v12 todo v13 fr) {b : Nat} {y : Blk2} (hy : σ.get b = some y) (hb : b < G ∨ ∃ r, y = .row r ∧ r.t ≠ 24) : blkOf v13 ≠ some b := fun e => by
  rcases hb with hb | ⟨r, rfl, hr⟩
  · have := (h.fm.lt e).1
    omega
  · obtain ⟨r', h1, h2⟩ := h.fm.is e
    rw [hy] at h1
    cases h1
    exact hr h2
/-- Numbers are added to those that are to be looked at. -/
theorem Mid.app12 (h : Mid G σ0 σ m met v12 todo v13 fr) (hG : G ≤ σ0.next) (ks : List Nat) (hk : 0 < ks.length) (hb : todo.length + ks.length ≤ 1000000) :
    ∃ v' cmd, appendF G Tryd.prog (σ.push (.row ⟨ints ks, 3, false⟩)) 54 54 v12 (.slice (some ⟨σ.next, 0, none⟩) ks.length ks.length) = some (v', cmd) ∧ Mid G σ0 (cmd.app (σ.push (.row ⟨ints ks, 3, false⟩))) m met v' (todo ++ ks) v13 fr ∧ ∀ b y, b < G → σ.get b = some y → (cmd.app (σ.push (.row ⟨ints ks, 3, false⟩))).get b = some y := by
  have hGn : G ≤ σ.next := by have := h.nx; omega
  obtain ⟨v', cmd, h1, h2, h3, h4, h5⟩ := grow_push (P := Tryd.prog) (t := 54) (u := 54) (e2 := 3) (r := ⟨ints ks, 3, false⟩) (n := ks.length) h.td hGn (by kernel_rfl) (by kernel_rfl) (by kernel_rfl) (by decide) hk (by simp [ints]) (ints_one ks) hb
  have hnx := h.nx
  refine ⟨v', cmd, h1, ⟨h4.trans h.abs, fun b y hb' hy => h5 b y (h.old b y hb' hy) (h.ne12 (h.old b y hb' hy) (.inl hb')), h5 _ _ h.row (h.ne12 h.row (.inr ⟨_, rfl, by show 4 ≠ 3; decide⟩)), by omega, ?_, h.fm.keep fun b hb' => ?_⟩, fun b y hb' hy => h5 b y hy (h.ne12 hy (.inl hb'))⟩
  · rw [List.length_append, show ints (todo ++ ks) = ints todo ++ ints ks from List.map_append]
    exact h2
  · obtain ⟨r, k1, k2⟩ := h.fm.is hb'
    rw [k1]
    exact h5 b _ k1 (h.ne12 k1 (.inr ⟨_, rfl, by rw [k2]; decide⟩))
/-- A word is added to the roots. -/
theorem Mid.app13 (h : Mid G σ0 σ m met v12 todo v13 fr) (hG : G ≤ σ0.next) (k : Nat) (hb : fr.length + 1 ≤ 1000000) :
    ∃ v' cmd, appendF G Tryd.prog (σ.push (.row ⟨wdC [consW k], 24, false⟩)) 22 22 v13 (.slice (some ⟨σ.next, 0, none⟩) 1 1) = some (v', cmd) ∧ Mid G σ0 (cmd.app (σ.push (.row ⟨wdC [consW k], 24, false⟩))) m met v12 todo v' (fr ++ [k]) := by
  have hGn : G ≤ σ.next := by have := h.nx; omega
  obtain ⟨v', cmd, h1, h2, h3, h4, h5⟩ := grow_push (P := Tryd.prog) (t := 22) (u := 22) (e2 := 24) (r := ⟨wdC [consW k], 24, false⟩) (n := 1) h.fm hGn (by kernel_rfl) (by kernel_rfl) (by kernel_rfl) (by decide) (by decide) rfl rfl hb
  have hnx := h.nx
  refine ⟨v', cmd, h1, ⟨h4.trans h.abs, fun b y hb' hy => h5 b y (h.old b y hb' hy) (h.ne13 (h.old b y hb' hy) (.inl hb')), h5 _ _ h.row (h.ne13 h.row (.inr ⟨_, rfl, by show 4 ≠ 24; decide⟩)), by omega, h.td.keep fun b hb' => ?_, ?_⟩⟩
  · obtain ⟨r, k1, k2⟩ := h.td.is hb'
    rw [k1]
    exact h5 b _ k1 (h.ne13 k1 (.inr ⟨_, rfl, by rw [k2]; decide⟩))
  · rw [List.length_append, List.map_append, show wdC (fr.map consW ++ [k].map consW) = wdC (fr.map consW) ++ wdC [consW k] by simp [wdC]]
    exact h2
end
/-- The law's roots. -/
def rts (l3 : List Int) (n : Nat) : List Nat := (List.range n).map (pk l3)
theorem rts_succ (l3 : List Int) (n : Nat) : rts l3 (n + 1) = rts l3 n ++ [pk l3 n] := by simp [rts, List.range_succ]
theorem rts_length (l3 : List Int) (n : Nat) : (rts l3 n).length = n := by simp [rts]

theorem st6 {G : Nat} {σ0 : Mem} {v1 v2 v3 : Value} {l1 l2 l3 : List Int} (hG : G ≤ σ0.next) (a1 : ArgS G σ0 v1 l1) (a2 : ArgS G σ0 v2 l2) (h1 : l1.length ≤ 40) (h2 : l1.length ≤ l2.length) (a3 : ArgS G σ0 v3 l3) (h3 : l3.length ≤ 40) {ta : Nat → Value} (e0 : ta 0 = v1) (e1 : ta 1 = v2) (e2 : ta 2 = v3) (e7 : ta 7 = .int .i64 l1.length) (e8 : ta 8 = .pointer (some ⟨σ0.next, 0, none⟩))
    (next : ∀ ta' σ v12 v13, Mid G σ0 σ ⟨50, pairs (pk l1) (pk l2) l1.length, []⟩ (List.replicate 41 false) v12 (rts l3 l3.length) v13 (rts l3 l3.length) → ta' 0 = v1 → ta' 1 = v2 → ta' 7 = .int .i64 l1.length → ta' 8 = .pointer (some ⟨σ0.next, 0, none⟩) → ta' 11 = .slice (some ⟨σ0.next + 1, 0, none⟩) 41 41 → ta' 12 = v12 → ta' 13 = v13 → W G Tryd.prog none 223 (restN 10 (bodyOf Tryd.f5)) ta' [] σ (trueQ 6)) :
    W G Tryd.prog none 223 (restN 6 (bodyOf Tryd.f5)) ta [] (mem1 σ0 l1 l2 l1.length) (trueQ 6) := by
  refine W.know 0 e0 (W.know 1 e1 (W.know 2 e2 (W.know 7 e7 (W.know 8 e8 (?_)))))
  refine W.seq ?_
  refine W.region ?_
  refine RW.make (x := .row ⟨List.replicate 41 (.bool false), 4, false⟩) (fm := fun b => .slice (some ⟨b, 0, none⟩) 41 41) (by kernel_rfl) (by kernel_rfl) (by kernel_rfl) (by kernel_rfl) ?_
  refine RW.val (by kernel_rfl) (by kernel_rfl) rfl (by kernel_rfl) ?_
  refine RW.nil ?_
  refine W.seq ?_
  refine W.region ?_
  refine RW.val (by kernel_rfl) (by kernel_rfl) rfl (by kernel_rfl) ?_
  refine RW.nil ?_
  refine W.seq ?_
  refine W.region ?_
  refine RW.val (by kernel_rfl) (by kernel_rfl) rfl (by kernel_rfl) ?_
  refine RW.nil ?_
  refine W.seq ?_
  refine W.seq ?_
  refine W.region ?_
  refine RW.val (by kernel_rfl) (by kernel_rfl) rfl (by kernel_rfl) ?_
  refine RW.nil ?_
  refine W.block ?_
  have hM : Mid G σ0 ((mem1 σ0 l1 l2 l1.length).push (.row ⟨List.replicate 41 (.bool false), 4, false⟩)) ⟨50, pairs (pk l1) (pk l2) l1.length, []⟩ (List.replicate 41 false) (.slice none 0 0) (rts l3 0) (.slice none 0 0) (rts l3 0) :=
    ⟨rfl, fun b y _ hy => get_push_old (by rw [mem1_get]; exact hy), get_push, Nat.le_refl _, .nil, .nil⟩
  refine W.loop (fun m ta σ => ∃ (k : Nat) (v12 v13 : Value), m + k = l3.length ∧ Mid G σ0 σ ⟨50, pairs (pk l1) (pk l2) l1.length, []⟩ (List.replicate 41 false) v12 (rts l3 k) v13 (rts l3 k) ∧ ta 0 = v1 ∧ ta 1 = v2 ∧ ta 2 = v3 ∧ ta 7 = .int .i64 l1.length ∧ ta 8 = .pointer (some ⟨σ0.next, 0, none⟩) ∧ ta 11 = .slice (some ⟨σ0.next + 1, 0, none⟩) 41 41 ∧ ta 12 = v12 ∧ ta 13 = v13 ∧ ta 14 = .int .i64 k) l3.length ?_ ?_
  · exact ⟨0, _, _, rfl, hM, rfl, rfl, rfl, rfl, rfl, rfl, rfl, rfl, rfl⟩
  clear hM
  rintro m ta σ ⟨k, v12, v13, hm, hM, e0, e1, e2, e7, e8, e11, e12, e13, e14⟩
  refine W.know 0 e0 (W.know 1 e1 (W.know 2 e2 (W.know 7 e7 (W.know 8 e8 (W.know 11 e11 (W.know 12 e12 (W.know 13 e13 (W.know 14 e14 (?_)))))))))
  refine W.seq ?_
  refine W.seq ?_
  refine W.region ?_
  refine RW.val (by kernel_rfl) (by kernel_rfl) rfl (by kernel_rfl) ?_
  refine RW.val (by kernel_rfl) (by kernel_rfl) rfl (by kernel_rfl) ?_
  refine RW.len (by kernel_rfl) (by kernel_rfl) rfl rfl rfl rfl a3.len (by kernel_rfl) ?_
  refine RW.val (by kernel_rfl) (by kernel_rfl) rfl (by kernel_rfl) ?_
  refine RW.nil ?_
  refine W.cond rfl (fun h => ?_) (fun h => ?_)
  · have hk : k < l3.length := by have := of_decide_eq_true h; omega
    refine W.skip ?_
    refine W.seq ?_
    refine W.block ?_
    obtain ⟨b3, c3, r3, x3, rfl, g3, w3, u3, lo3, hi3, p3⟩ := a3.at hk
    refine W.seq ?_
    refine W.region ?_
    refine RW.val (by kernel_rfl) (by kernel_rfl) rfl (by kernel_rfl) ?_
    refine RW.val (by kernel_rfl) (by kernel_rfl) rfl (by kernel_rfl) ?_
    refine RW.idx (s := 1) (by kernel_rfl) (by kernel_rfl) rfl Tryd.underlying54 (by kernel_rfl) rfl rfl ⟨by omega, by omega⟩ (by kernel_rfl) ?_
    refine RW.load (by kernel_rfl) (by kernel_rfl) rfl rfl (hM.old _ _ g3 w3) u3 rfl (by kernel_rfl) ?_
    refine RW.call (by kernel_rfl) (by kernel_rfl) rfl rfl rfl (by kernel_rfl) (by kernel_rfl) ⟨_, _, s_pk lo3 hi3 p3, ?_⟩
    refine RW.val (by kernel_rfl) (by kernel_rfl) rfl (by kernel_rfl) ?_
    refine RW.nil ?_
    refine W.region ?_
    refine RW.val (by kernel_rfl) (by kernel_rfl) rfl (by kernel_rfl) ?_
    refine RW.val (by kernel_rfl) (by kernel_rfl) rfl (by kernel_rfl) ?_
    refine RW.make (x := .row ⟨ints [pk l3 k], 3, false⟩) (fm := fun b => .slice (some ⟨b, 0, none⟩) 1 1) (by kernel_rfl) (by kernel_rfl) (by kernel_rfl) (by kernel_rfl) ?_
    obtain ⟨v', cmd, k1, k2, _⟩ := hM.app12 hG [pk l3 k] (by simp) (by simp [rts_length]; omega)
    refine RW.append (by kernel_rfl) (by kernel_rfl) rfl rfl rfl rfl k1 (by kernel_rfl) ?_
    generalize MCmd.app (σ.push (.row ⟨ints [pk l3 k], 3, false⟩)) cmd = σ1 at k2 ⊢
    rw [← rts_succ] at k2
    refine RW.val (by kernel_rfl) (by kernel_rfl) rfl (by kernel_rfl) ?_
    refine RW.val (by kernel_rfl) (by kernel_rfl) rfl (by kernel_rfl) ?_
    refine RW.call (by kernel_rfl) (by kernel_rfl) rfl rfl rfl (by kernel_rfl) (by kernel_rfl) ⟨_, _, s_word _ _, ?_⟩
    refine RW.make (x := .row ⟨wdC [consW (pk l3 k)], 24, false⟩) (fm := fun b => .slice (some ⟨b, 0, none⟩) 1 1) (by kernel_rfl) (by kernel_rfl) (by kernel_rfl) (by kernel_rfl) ?_
    obtain ⟨v2', cmd2, j1, j2⟩ := k2.app13 hG (pk l3 k) (by simp [rts_length]; omega)
    refine RW.append (by kernel_rfl) (by kernel_rfl) rfl rfl rfl rfl j1 (by kernel_rfl) ?_
    generalize MCmd.app (σ1.push (.row ⟨wdC [consW (pk l3 k)], 24, false⟩)) cmd2 = σ2 at j2 ⊢
    rw [← rts_succ] at j2
    refine RW.val (by kernel_rfl) (by kernel_rfl) rfl (by kernel_rfl) ?_
    refine RW.val (by kernel_rfl) (by kernel_rfl) rfl (by kernel_rfl) ?_
    refine RW.nil ?_
    refine W.region ?_
    refine RW.val (by kernel_rfl) (by kernel_rfl) rfl (by kernel_rfl) ?_
    refine RW.valE (by kernel_rfl) (by kernel_rfl) rfl (congrArg (Value.int .i64) (wrap_in (by omega) (by omega))) (by kernel_rfl) ?_
    refine RW.val (by kernel_rfl) (by kernel_rfl) rfl (by kernel_rfl) ?_
    refine RW.nil ?_
    exact ⟨rfl, m - 1, by omega, k + 1, _, _, by omega, j2, rfl, rfl, rfl, rfl, rfl, rfl, rfl, rfl, rfl⟩
  · have hk : k = l3.length := by have := of_decide_eq_false h; omega
    subst hk
    refine W.exit _ ?_
    exact next _ _ _ _ hM rfl rfl rfl rfl rfl rfl rfl
end Go.Proofs.YthmfiahmfdadgaaDoor
