/-
  slices.Insert of one ranked word ahead of all others, where there is room and where there is none. Conditions: the row lies in plain memory, the word to be inserted in another block.
  slices.Insert of one ranked word ahead of all others as a call of the second memory: whatever room there is, the row goes on under a new number. Conditions: the word's row has just been made.
-/
import Derived.Test.YtaaebeiigkhcjaaGreatDoorChecked
import Derived.Test.YtaaebeiigkhcjaaGreatDoorHq
import Derived.Shelf.Spec.SlicesInsertGrow
import Derived.Test.YtaaebeiigkhcjaaGreatDoorS4
namespace Go.Proofs.YtaaebeiigkhcjaaGreatDoor
open Go.Shelf Go.RowKit Go.Lib
set_option maxRecDepth 100000
section
variable {P : Program}
theorem run_copy_cellsN (w : World) (dT sT ty elem : TypeId) (s : Nat) (b o dLen dCap : Nat) (a : Addr) (sLen sCap n : Nat) (cs : List Value)
    (hu : P.underlying dT = some (.slice elem)) (hs : (P.info? elem).map (·.size) = some s) (hn : n = Nat.min sLen dLen) (hcl : cs.length = n * s)
    (hsrc : ∀ j v, cs[j]? = some v → w.cell? (a.add j) = some v) (hc : ∀ j, j < cs.length → (w.cell? ⟨b, o + j, none⟩).isSome = true) (hf : ∀ j, j < cs.length → w.frozen? ⟨b, o + j, none⟩ = false) (h1 : ∀ v ∈ cs, v.oneCell' = true) :
    (Builtin.copy_ #[dT, sT] ty #[.slice (some ⟨b, o, none⟩) dLen dCap, .slice (some a) sLen sCap]).run P w = .ok (goInt n) (w.setCells b o cs) := by
  have hl := run_loadCells_list (P := P) w a cs hsrc
  have hst := run_storeCells_cells (P := P) b o cs 0 w (by simpa using hc) (by simpa using hf) h1
  cases hq : P.info? elem with
  | none => simp [hq] at hs
  | some i =>
    have hi : i.size = s := by simpa [hq] using hs
    simp [Builtin.copy_, run_underlying hu, Builtin.lenOf, Builtin.firstCells, sizeOf, typeInfo, hq, hi, ← hn, ← hcl, hl, hst]
end
theorem info_rk : (Tryz.prog.info? 79).map (fun i => (i.zero, i.size, i.bytes)) = some (some (.agg #[.int .i64 0, .int .i64 0, .int .i64 0]), 3, 24) := by kernel_rfl
set_option maxHeartbeats 4000000 in
theorem insert_room (b off n c vb : Nat) (cs vs : List Value) (w : World) (hn : 0 < n) (hbig : n ≤ 1000000) (hroom : n + 1 ≤ c) (hvb : vb ≠ b)
    (hcl : cs.length = n * 3) (hvl : vs.length = 3)
    (hcs : ∀ j v, cs[j]? = some v → w.cell? ⟨b, off + j, none⟩ = some v) (hsp : ∀ j, j < (n + 1) * 3 → (w.cell? ⟨b, off + j, none⟩).isSome = true) (hfz : ∀ j, j < (n + 1) * 3 → w.frozen? ⟨b, off + j, none⟩ = false)
    (hvs : ∀ j v, vs[j]? = some v → w.cell? ⟨vb, 0 + j, none⟩ = some v) (h1c : ∀ v ∈ cs, v.oneCell' = true) (h1v : ∀ v ∈ vs, v.oneCell' = true)
    (tA tB : TypeId) (kA kB : Nat) (hsa : w.shape? vb = some (tA, kA)) (hsb : w.shape? b = some (tB, kB)) (hkB : kB ≠ 0) (hfa : w.frozen? ⟨vb, 0, none⟩ = false) (hfe : w.frozen? ⟨vb, kA, none⟩ = false) :
    Calls Tryz.prog 45 #[.slice (some ⟨b, off, none⟩) n c, .int .i64 0, .slice (some ⟨vb, 0, none⟩) 1 1] w fun e w' =>
      e = .returned (.slice (some ⟨b, off, none⟩) (n + 1) c) ∧ w' = (w.drew.setCells b (off + 3) cs).setCells b off vs := by
  have u22 := Tryz.underlying76
  have hsz : (Tryz.prog.info? 79).map (·.size) = some 3 := by
    obtain ⟨i0, hi0, h0, h1, h2⟩ := info_parts info_rk
    rw [hi0]; simp [h1]
  have hz3 : ∀ w, (Go.sizeOf 79).run Tryz.prog w = .ok 3 w := fun w => by
    obtain ⟨i0, hi0, h0, h1, h2⟩ := info_parts info_rk
    simp [sizeOf, typeInfo, hi0, h1]
  have hz2 : ¬ ((0 : Int) = (n : Int)) := by omega
  have hov : ∀ lb cb, (callFunc 75 #[.slice (some ⟨vb, 0, none⟩) 1 1, .slice (some ⟨b, off + 3, none⟩) lb cb]).run Tryz.prog w = .ok (.value (.bool false)) w := fun lb cb => by
    rw [run_callFunc_extern Tryz.func75 (by kernel_rfl) (by kernel_rfl) (by kernel_rfl) (e := Extern.SlicesOverlaps.overlaps #[76, 76] #[4]) (by kernel_rfl),
      Lib.run_overlaps_apart w 76 4 79 u22 3 hz3 ⟨vb, 0, none⟩ ⟨b, off + 3, none⟩ 1 1 lb cb hvb tA tB kA kB hsa hsb hkB hfa hfe]
    rfl
  have hw0 : IntKind.i64.wrap 1 = 1 := by rw [IntKind.wrap_i64]; omega
  have hb2 : ¬ (c = 1) := by omega
  have hb3 : ¬ (c = 0) := by omega
  have mixed : Tryz.prog.follows .mixedOrders = true := by kernel_rfl
  have hb6 : (0 : Int) ≤ (n : Int) + 1 := by omega
  have hb5 : (1 : Int) ≤ (n : Int) + 1 := by omega
  have hw2 : IntKind.i64.wrap ((n : Int) + 1) = (n : Int) + 1 := by rw [IntKind.wrap_i64]; omega
  have htn : ((n : Int) + 1).toNat = n + 1 := by omega
  have hcp1 : ∀ ty dc sc, (Builtin.copy_ #[76, 76] ty #[.slice (some ⟨b, off + 3, none⟩) n dc, .slice (some ⟨b, off, none⟩) (n + 1) sc]).run Tryz.prog w.drew = .ok (goInt n) (w.drew.setCells b (off + 3) cs) := fun ty dc sc =>
    run_copy_cellsN w.drew _ _ ty 79 3 b (off + 3) n dc ⟨b, off, none⟩ (n + 1) sc n cs u22 hsz (by simp only [Nat.min_def]; split <;> omega) hcl
      (fun j v hj => by rw [Addr.add_lit]; exact hcs j v hj)
      (fun j hj => by rw [Nat.add_assoc]; exact hsp _ (by omega)) (fun j hj => by rw [Nat.add_assoc]; exact hfz _ (by omega)) h1c
  obtain ⟨W1, hW1⟩ : ∃ W1, W1 = w.drew.setCells b (off + 3) cs := ⟨_, rfl⟩
  have hsp1 : ∀ k, k < (n + 1) * 3 → (W1.cell? ⟨b, off + k, none⟩).isSome = true := fun k hk => by
    rw [hW1]
    exact isSome_setCells b _ _ _ (fun j hj => by rw [Nat.add_assoc]; exact hsp _ (by omega)) _ (hsp k hk)
  have hcp2 : ∀ (W : World), (∀ x, W.cell? x = W1.cell? x) → (∀ x, W.frozen? x = W1.frozen? x) → ∀ ty dc, (Builtin.copy_ #[76, 76] ty #[.slice (some ⟨b, off, none⟩) (n + 1) dc, .slice (some ⟨vb, 0, none⟩) 1 1]).run Tryz.prog W = .ok (goInt 1) (W.setCells b off vs) := fun W hWc hWf ty dc =>
    run_copy_cellsN W _ _ ty 79 3 b off (n + 1) dc ⟨vb, 0, none⟩ 1 1 1 vs u22 hsz (by simp only [Nat.min_def]; split <;> omega) (by rw [hvl])
      (fun j v hj => by
        rw [Addr.add_lit, hWc, hW1, World.cell?_setCells_out b _ _ _ _ (fun h _ => absurd h hvb)]
        exact hvs j v hj)
      (fun j hj => by rw [hWc]; exact hsp1 _ (by omega)) (fun j hj => by rw [hWf, hW1, World.frozen?_setCells]; exact hfz _ (by omega)) h1v
  rw [← hW1] at hcp1
  go_enter Tryz.func45, Tryz.ntmps45
  go_wp2_with (simp only [hov])
  go_region_law_o (refine step_copy_runI rfl _ _ 76 76 rfl _ _ (by simp [Act.eval, Act.put]) (by simp [Act.eval, Act.put]) (hcp1 _ _ _) ?_)
  go_wp2_with (at_builtin; refine wpList_copy_runI _ rfl _ _ 76 76 rfl _ _ rfl rfl (hcp2 _ (fun _ => rfl) (fun _ => rfl) _ _) ?_)
  go_ret
  first | exact ⟨rfl, rfl⟩ | exact ⟨rfl, by rw [hW1]⟩
theorem zeroCells_size (z : Array Value) (k : Nat) : (Builtin.zeroCells z k).size = k * z.size := by
  simp [Builtin.zeroCells]
set_option maxHeartbeats 4000000 in
theorem insert_grow (b off n c vb : Nat) (cs vs : List Value) (w : World) (hn : 0 < n) (hnc : n ≤ c) (hroom : c < n + 1) (hbig : n ≤ 1000000)
    (hcl : cs.length = n * 3) (hvl : vs.length = 3)
    (hcs : ∀ j v, cs[j]? = some v → w.cell? ⟨b, off + j, none⟩ = some v)
    (hvs : ∀ j v, vs[j]? = some v → w.cell? ⟨vb, 0 + j, none⟩ = some v) (h1c : ∀ v ∈ cs, v.oneCell' = true) (h1v : ∀ v ∈ vs, v.oneCell' = true) :
    Calls Tryz.prog 45 #[.slice (some ⟨b, off, none⟩) n c, .int .i64 0, .slice (some ⟨vb, 0, none⟩) 1 1] w fun e w' =>
      ∃ ROW : Array Value, ROW.size = grownCap w (n + 1) c 79 * 3 ∧ n + 1 ≤ grownCap w (n + 1) c 79 ∧ e = .returned (.slice (some ⟨w.heap.size, 0, none⟩) (n + 1) (grownCap w (n + 1) c 79)) ∧
      w' = (((w.alloc (.cells ROW 79)).drew.setCells w.heap.size 0 vs).drew).setCells w.heap.size 3 cs := by
  have u22 := Tryz.underlying76
  have u3 := Tryz.underlying3
  obtain ⟨i0, hi0, hz0, hzs, hzb⟩ := info_parts info_rk
  have hz2 : ¬ ((0 : Int) = (n : Int)) := by omega
  have hz3' : (c : Int) < (n : Int) + 1 := by omega
  have hsz : (Tryz.prog.info? 79).map (·.size) = some 3 := by rw [hi0]; simp [hzs]
  have hz3 : ∀ w, (Go.sizeOf 79).run Tryz.prog w = .ok 3 w := fun w => by simp [sizeOf, typeInfo, hi0, hzs]
  have hbw : b < w.heap.size := block_lt_of_cell (hcs 0 _ (List.getElem?_eq_getElem (by omega)))
  have hvw : vb < w.heap.size := block_lt_of_cell (hvs 0 _ (List.getElem?_eq_getElem (by omega)))
  have hkk : (n : Int) + 1 = ((n + 1 : Nat) : Int) := by omega
  have hold : (Builtin.firstCells i0.size 0 (.slice (some ⟨b, off, none⟩) 0 c)).run Tryz.prog w.drew = .ok ([] : List Value).toArray w.drew := by
    rw [hzs]
    exact run_firstCells_some w.drew 3 0 ⟨b, off, none⟩ 0 c [] (by simp) (fun j v hj => by simp at hj)
  have hrz : ∀ ty, (Builtin.append_ #[76, 3] ty #[.slice (some ⟨b, off, none⟩) 0 c, .int .i64 ((n : Int) + 1)]).run Tryz.prog w =
      .ok (.slice (some ⟨w.heap.size, 0, none⟩) (n + 1) (grownCap w (n + 1) c 79)) (w.drew.alloc (.cells (([] : List Value).toArray ++ Builtin.zeroCells (Value.agg #[.int .i64 0, .int .i64 0, .int .i64 0]).cells (n + 1) ++ Builtin.zeroCells (Value.agg #[.int .i64 0, .int .i64 0, .int .i64 0]).cells (grownCap w (n + 1) c 79 - (n + 1))) 79)) := fun ty => by
    have h := Lib.run_append_grow_zeros w 76 3 ty 79 i0 _ .i64 .i64 u22 u3 hi0 hz0 (some ⟨b, off, none⟩) 0 c [] hold (n + 1) (by omega) (by omega) (by omega) (by omega) (by rw [hzb]; omega) (by rw [hzb, Nat.zero_add]; exact growslice_fits hroom (by omega))
    rw [Nat.zero_add] at h
    rw [hkk]
    exact h
  obtain ⟨G, hG⟩ : ∃ G, G = grownCap w (n + 1) c 79 := ⟨_, rfl⟩
  have hGn : n + 1 ≤ G := by rw [hG]; exact grownCap_ge w _ _ _
  have hG63 : G ≤ 9223372036854775807 := by
    have := grownCap_le_maxLen w (n + 1) c 79 (by unfold maxLen; omega)
    rw [← hG] at this
    unfold maxLen at this
    omega
  obtain ⟨ROW, hROW⟩ : ∃ ROW : Array Value, ROW = ([] : List Value).toArray ++ Builtin.zeroCells (Value.agg #[.int .i64 0, .int .i64 0, .int .i64 0]).cells (n + 1) ++ Builtin.zeroCells (Value.agg #[.int .i64 0, .int .i64 0, .int .i64 0]).cells (G - (n + 1)) := ⟨_, rfl⟩
  rw [← hG] at hrz ⊢
  rw [← hROW] at hrz
  have hRs : ROW.size = G * 3 := by
    rw [hROW]
    simp only [Array.size_append, zeroCells_size]
    show 0 + (n + 1) * 3 + (G - (n + 1)) * 3 = G * 3
    omega
  have hRl : (n + 1) * 3 ≤ ROW.size := by rw [hRs]; omega
  obtain ⟨W1, hW1⟩ : ∃ W1, W1 = w.drew.alloc (.cells ROW 79) := ⟨_, rfl⟩
  rw [← hW1] at hrz
  have hN : ∀ j, j < (n + 1) * 3 → (W1.cell? ⟨w.heap.size, j, none⟩).isSome = true := fun j hj => by
    rw [hW1, World.cell?_alloc_at (w := w.drew) ROW _ w.heap.size j rfl, Array.getElem?_eq_getElem (by omega)]; rfl
  have hNf : ∀ j, W1.frozen? ⟨w.heap.size, j, none⟩ = false := fun j => by rw [hW1]; exact World.frozen?_alloc_at (w := w.drew) ROW _ w.heap.size j rfl
  have hOb : ∀ j v, w.cell? ⟨b, j, none⟩ = some v → W1.cell? ⟨b, j, none⟩ = some v := fun j v h => by rw [hW1, World.cell?_alloc_past (w := w.drew) _ b j hbw]; exact h
  have hOv : ∀ j v, w.cell? ⟨vb, j, none⟩ = some v → W1.cell? ⟨vb, j, none⟩ = some v := fun j v h => by rw [hW1, World.cell?_alloc_past (w := w.drew) _ vb j hvw]; exact h
  have hcpA : ∀ (W : World), (∀ x, W.cell? x = W1.cell? x) → (∀ x, W.frozen? x = W1.frozen? x) → ∀ ty dc, (Builtin.copy_ #[76, 76] ty #[.slice (some ⟨w.heap.size, 0, none⟩) (n + 1) dc, .slice (some ⟨vb, 0, none⟩) 1 1]).run Tryz.prog W = .ok (goInt 1) (W.setCells w.heap.size 0 vs) := fun W hWc hWf ty dc =>
    run_copy_cellsN W _ _ ty 79 3 w.heap.size 0 (n + 1) dc ⟨vb, 0, none⟩ 1 1 1 vs u22 hsz (by simp only [Nat.min_def]; split <;> omega) (by rw [hvl])
      (fun j v hj => by rw [Addr.add_lit, hWc]; exact hOv _ v (hvs j v hj))
      (fun j hj => by rw [hWc, Nat.zero_add]; exact hN _ (by omega)) (fun j hj => by rw [hWf]; exact hNf _) h1v
  have hbN : b ≠ w.heap.size := by omega
  have hcpB : ∀ (W : World), (∀ x, W.cell? x = (W1.setCells w.heap.size 0 vs).cell? x) → (∀ x, W.frozen? x = (W1.setCells w.heap.size 0 vs).frozen? x) → ∀ ty dc sc, (Builtin.copy_ #[76, 76] ty #[.slice (some ⟨w.heap.size, 3, none⟩) n dc, .slice (some ⟨b, off, none⟩) n sc]).run Tryz.prog W = .ok (goInt n) (W.setCells w.heap.size 3 cs) := fun W hWc hWf ty dc sc =>
    run_copy_cellsN W _ _ ty 79 3 w.heap.size 3 n dc ⟨b, off, none⟩ n sc n cs u22 hsz (by simp only [Nat.min_def]; split <;> omega) hcl
      (fun j v hj => by
        rw [Addr.add_lit, hWc, World.cell?_setCells_out _ _ _ _ _ (fun h _ => absurd h hbN)]
        exact hOb _ v (hcs j v hj))
      (fun j hj => by rw [hWc]; exact isSome_setCells _ _ _ _ (fun t ht => by rw [Nat.zero_add]; exact hN _ (by omega)) _ (hN _ (by omega)))
      (fun j hj => by rw [hWf, World.frozen?_setCells]; exact hNf _) h1c
  subst hW1
  have hE1 : ∀ x, ((w.alloc (.cells ROW 79)).drew).cell? x = (w.drew.alloc (.cells ROW 79)).cell? x := fun x => rfl
  have hE2 : ∀ x, ((w.alloc (.cells ROW 79)).drew).frozen? x = (w.drew.alloc (.cells ROW 79)).frozen? x := fun x => rfl
  have hF1 : ∀ x, (((w.alloc (.cells ROW 79)).drew.setCells w.heap.size 0 vs).drew).cell? x = ((w.drew.alloc (.cells ROW 79)).setCells w.heap.size 0 vs).cell? x := fun x => rfl
  have hF2 : ∀ x, (((w.alloc (.cells ROW 79)).drew.setCells w.heap.size 0 vs).drew).frozen? x = ((w.drew.alloc (.cells ROW 79)).setCells w.heap.size 0 vs).frozen? x := fun x => rfl
  have mixed : Tryz.prog.follows .mixedOrders = true := by kernel_rfl
  have hw0 : IntKind.i64.wrap 1 = 1 := by rw [IntKind.wrap_i64]; omega
  have hw2 : IntKind.i64.wrap ((n : Int) + 1) = (n : Int) + 1 := by rw [IntKind.wrap_i64]; omega
  have hb2 : ¬ (G = 1) := by omega
  have hb3 : ¬ (c = 0) := by omega
  have hb4 : ¬ (G = 0) := by omega
  have hb6 : (0 : Int) ≤ (n : Int) + 1 := by omega
  have hb5 : (1 : Int) ≤ (n : Int) + 1 := by omega
  have htn : ((n : Int) + 1).toNat = n + 1 := by omega
  refine Calls.mono (R := fun e w' => e = .returned (.slice (some ⟨w.heap.size, 0, none⟩) (n + 1) G) ∧ w' = (((w.alloc (.cells ROW 79)).drew.setCells w.heap.size 0 vs).drew).setCells w.heap.size 3 cs) ?_ fun e w' h => ⟨ROW, hRs, hGn, h.1, h.2⟩
  clear hkk hold hROW hG hRl hRs hGn
  go_enter Tryz.func45, Tryz.ntmps45
  go_wp2_with (first
    | (at_builtin; refine Lib.wpList_append_run _ rfl _ _ _ _ rfl _ _ rfl rfl _ _ (hrz _) ?_)
    | (at_builtin; refine wpList_copy_runI _ rfl _ _ 76 76 rfl _ _ rfl rfl (hcpA _ hE1 hE2 _ _) ?_)
    | (at_builtin; refine wpList_copy_runI _ rfl _ _ 76 76 rfl _ _ rfl rfl (hcpB _ (fun _ => rfl) (fun _ => rfl) _ _ _) ?_))
  go_region_law_o (refine step_copy_runI rfl _ _ 76 76 rfl (.slice (some ⟨w.heap.size, 3, none⟩) n (G - 1)) (.slice (some ⟨b, off, none⟩) n c) (by simp [Act.eval, Act.put]) (by simp [Act.eval, Act.put]) (hcpB _ hF1 hF2 3 (G - 1) c) ?_)
  go_wp2
  go_ret
  exact ⟨rfl, rfl⟩
end Go.Proofs.YtaaebeiigkhcjaaGreatDoor
namespace Go.Proofs.YtaaebeiigkhcjaaGreatDoor
open Go.RowKit
set_option maxRecDepth 100000
theorem arel3 {μ : Mu} {a b c : Value} {cargs : Array Value} (h : ARel μ #[a, b, c] cargs) : ∃ a' b' c', cargs = #[a', b', c'] ∧ VRel μ a a' ∧ VRel μ b b' ∧ VRel μ c c' := by
  obtain ⟨hs, hv⟩ := h
  have h3 : cargs.size = 3 := hs.symm
  refine ⟨cargs[0], cargs[1], cargs[2], ?_, hv 0 _ _ rfl (by simp [h3]), hv 1 _ _ rfl (by simp [h3]), hv 2 _ _ rfl (by simp [h3])⟩
  apply Array.ext
  · exact h3
  · intro i h1 h2
    have : i = 0 ∨ i = 1 ∨ i = 2 := by omega
    rcases this with rfl | rfl | rfl <;> rfl
theorem setCells_row (b : Nat) (t : TypeId) (fz : Nat × Nat) : ∀ (vs : List Value) (o : Nat) (cc : Array Value) (w : World), w.heap[b]? = some (.cells cc t fz) → o + vs.length ≤ cc.size →
    ∃ cc' : Array Value, (w.setCells b o vs).heap[b]? = some (.cells cc' t fz) ∧ cc'.size = cc.size ∧ (∀ i, cc'[i]? = if o ≤ i ∧ i < o + vs.length then vs[i - o]? else cc[i]?) ∧ (w.setCells b o vs).heap.size = w.heap.size ∧
      (∀ B, B ≠ b → (w.setCells b o vs).heap[B]? = w.heap[B]?) ∧ (w.setCells b o vs).os = w.os ∧ (w.setCells b o vs).tape = w.tape ∧ (w.setCells b o vs).output = w.output
  | [], o, cc, w, h, _ => ⟨cc, h, rfl, fun i => by rw [if_neg (by simp only [List.length_nil]; omega)], rfl, fun _ _ => rfl, rfl, rfl, rfl⟩
  | v :: r, o, cc, w, h, hl => by
    simp only [List.length_cons] at hl
    have e := setCell_eq_setRow w b o cc t fz v h
    have h1 := setRow_heap w b cc (cc.setIfInBounds o v) t fz h
    obtain ⟨cc', k1, k2, k3, k4, k5, k6, k7, k8⟩ := setCells_row b t fz r (o + 1) (cc.setIfInBounds o v) (w.setRow b (cc.setIfInBounds o v)) h1 (by simp; omega)
    have ew : w.setCells b o (v :: r) = (w.setRow b (cc.setIfInBounds o v)).setCells b (o + 1) r := by
      show (w.setCell ⟨b, o, none⟩ v).setCells b (o + 1) r = _
      rw [e]
    rw [ew]
    refine ⟨cc', k1, by rw [k2]; simp, fun i => ?_, by rw [k4]; simp [World.setRow], fun B hB => by rw [k5 B hB, setRow_other _ _ _ _ hB], k6, k7, k8⟩
    rw [k3]
    simp only [List.length_cons]
    by_cases h2 : i = o
    · subst h2
      rw [if_neg (by omega), if_pos (by omega), Nat.sub_self]
      simp [show i < cc.size by omega]
    · by_cases h3 : o + 1 ≤ i ∧ i < o + 1 + r.length
      · rw [if_pos h3, if_pos (by omega), show i - o = (i - (o + 1)) + 1 by omega, List.getElem?_cons_succ]
      · rw [if_neg h3, if_neg (by omega), Array.getElem?_setIfInBounds_ne (by omega)]
theorem frozen_off {w : World} {b : Nat} {cc : Array Value} {t : TypeId} {fz : Nat × Nat} (h : w.heap[b]? = some (.cells cc t fz)) (hf : fz = (0, 0) ∨ cc.size ≤ fz.1) {i : Nat} (hi : i < cc.size) : w.frozen? ⟨b, i, none⟩ = false := by
  unfold World.frozen?
  rw [h]
  rcases hf with rfl | h1
  · simp
  · obtain ⟨lo, hi'⟩ := fz
    simp only at h1
    simp
    omega
theorem cell_in {w : World} {b : Nat} {cc : Array Value} {t : TypeId} {fz : Nat × Nat} (h : w.heap[b]? = some (.cells cc t fz)) (i : Nat) : w.cell? ⟨b, i, none⟩ = cc[i]? := by
  simp [World.cell?, h]
section
variable {A : Abs} {F : Nat → Option Blk2} {σ : Mem} {L : List Ent} {G : Nat}
set_option maxHeartbeats 4000000 in
theorem insert_front {v : Value} {n b : Nat} {xs ys : List Value} (hn : 0 < n) (hbig : n ≤ 1000) (hy : ys.length = 3) (h1x : ∀ x ∈ xs, x.oneCell' = true) (h1y : ∀ x ∈ ys, x.oneCell' = true)
    (H : Lies G A F σ (.at_ b (.row ⟨ys, 79, false⟩) :: .sl 79 3 v n xs :: L)) :
    WC G Tryz.prog 45 #[v, .int .i64 0, .slice (some ⟨b, 0, none⟩) 1 1] σ fun r σ' => ∃ v', r = v' ∧ Lies G A F σ' (.at_ b (.row ⟨ys, 79, false⟩) :: .sl 79 3 v' (n + 1) (ys ++ xs) :: L) := by
  have hg := H.sl 1 rfl
  have hb := H.get 0 rfl
  have hbG := H.low 0 rfl
  have hap := (H.apart.1 b rfl).2 _ (List.mem_cons_self ..)
  have hxl := hg.length
  cases hg with
  | nil => cases hn
  | @row q _ c2 r _ hq hr hte hc2 hl hx =>
  have hbq : b ≠ q := fun e => hap (by rw [e]; rfl)
  have hkn : (σ.kill q).next = σ.next := rfl
  refine ⟨.slice (some ⟨σ.next, 0, some 3⟩) (n + 1) (n + 1), (σ.kill q).push (.row ⟨ys ++ xs, 79, true⟩), ⟨Nat.le_succ _, fun μ w cargs hs hG hf har => ?_⟩, _, rfl, ?_⟩
  · have hn0 : μ σ.next = none := hf _ (Nat.le_refl _) (Nat.lt_succ_self _)
    obtain ⟨va, vb, vc, rfl, r1, r2, r3⟩ := arel3 har
    have r2 := flatV_eq rfl r2
    subst r2
    obtain ⟨ci, hci, rfl⟩ := r3.sliceE_inv
    obtain ⟨bi, hbi, _, hsz, r1⟩ := r1.sliceG_inv
    obtain ⟨rfl, hlen⟩ : va = .slice (some ⟨bi.blk, bi.sh + 0, none⟩) n (c2 + bi.r) ∧ 0 + c2 * 3 = bi.len := by
      rcases r1 with h | h | h
      · exact h
      · exact absurd h.1 (by omega)
      · first | exact absurd h.1 (by omega) | (obtain ⟨_, h⟩ := h; exact absurd h.1 (by omega))
    -- the two rows in the world
    have inq := hs.blk q _ bi hr hbi
    obtain ⟨cc, fz, t', hh, hf', hv⟩ := inq.lie
    obtain ⟨rfl, hfz, hcs, _⟩ := hf' (hs.rw_ q _ bi hq hr hbi)
    have inb := hs.blk b _ ci hb hci
    obtain ⟨dd, gz, u', kh, kf', kv⟩ := inb.lie
    obtain ⟨rfl, _, kcs, kg⟩ := kf' (hs.rw_ b _ ci hbG hb hci)
    obtain ⟨k1, k2, rfl⟩ := kg rfl
    have kl : ci.len = 3 := by rw [← inb.len]; exact hy
    have hds : dd.size = 3 := by rw [kcs, k1, k2, kl]; simp
    have hne : ci.blk ≠ bi.blk := fun e => hbq (hs.inj b q _ _ ci bi hb hr hci hbi e (.inl hbG))
    rw [hsz] at hcs
    have hrl : r.cs.length = bi.len := inq.len
    have hcsz : cc.size = bi.sh + (c2 + bi.r) * 3 := by rw [hcs, Nat.add_mul]; omega
    obtain ⟨os, hos⟩ : ∃ os : List Value, os = (cc.toList.drop bi.sh).take (n * 3) := ⟨_, rfl⟩
    have hle : n * 3 ≤ (c2 + bi.r) * 3 := Nat.mul_le_mul_right _ (by omega)
    have hosl : os.length = n * 3 := by rw [hos, List.length_take, List.length_drop, Array.length_toList]; omega
    have hosg : ∀ (j : Nat) y, os[j]? = some y → cc[bi.sh + j]? = some y := fun j y hj => by
      have hjl : j < n * 3 := by rw [← hosl]; exact (List.getElem?_eq_some_iff.1 hj).1
      rw [hos, List.getElem?_take, if_pos hjl, List.getElem?_drop, Array.getElem?_toList] at hj
      exact hj
    have hosx : ∀ (i : Nat) y y', xs[i]? = some y → os[i]? = some y' → VRel μ y y' := fun i y y' e1 e2 => by
      rw [← hx, List.getElem?_take] at e1
      split at e1
      · obtain ⟨y2, g1, g2⟩ := hv i y e1
        rw [hosg i y' e2] at g1
        cases g1
        exact g2
      · cases e1
    have hos1 : ∀ y ∈ os, y.oneCell' = true := fun y hy' => by
      obtain ⟨i, hi, e⟩ := List.mem_iff_getElem.1 hy'
      have hi' : i < xs.length := by rw [hxl]; omega
      have := hosx i xs[i] os[i] (by simp [hi']) (by simp [hi])
      rw [← e, this.one]
      exact h1x _ (List.getElem_mem _)
    obtain ⟨zs, hzs⟩ : ∃ zs : List Value, zs = dd.toList := ⟨_, rfl⟩
    have hzl : zs.length = 3 := by rw [hzs]; simpa using hds
    have hzg : ∀ (j : Nat) y, zs[j]? = some y → w.cell? ⟨ci.blk, 0 + j, none⟩ = some y := fun j y hj => by
      rw [cell_in kh, Nat.zero_add, ← Array.getElem?_toList, ← hzs]; exact hj
    have hzy : ∀ (i : Nat) y y', ys[i]? = some y → zs[i]? = some y' → VRel μ y y' := fun i y y' e1 e2 => by
      obtain ⟨y2, g1, g2⟩ := kv i y e1
      rw [k1, Nat.zero_add, ← Array.getElem?_toList, ← hzs, e2] at g1
      cases g1
      exact g2
    have hz1 : ∀ y ∈ zs, y.oneCell' = true := fun y hy' => by
      obtain ⟨i, hi, e⟩ := List.mem_iff_getElem.1 hy'
      have hi' : i < ys.length := by omega
      have := hzy i ys[i] zs[i] (by simp [hi']) (by simp [hi])
      rw [← e, this.one]
      exact h1y _ (List.getElem_mem _)
    have hrel : ∀ (i : Nat) y, (ys ++ xs)[i]? = some y → ∃ y', (zs ++ os)[i]? = some y' ∧ VRel μ y y' := fun i y e => by
      rcases Nat.lt_or_ge i 3 with h | h
      · rw [List.getElem?_append_left (by omega)] at e
        have hi : i < zs.length := by omega
        exact ⟨zs[i], by rw [List.getElem?_append_left hi]; simp [hi], hzy i y _ e (by simp [hi])⟩
      · rw [List.getElem?_append_right (by omega), hy] at e
        have h2 : i - 3 < xs.length := (List.getElem?_eq_some_iff.1 e).1
        have hi : i - 3 < os.length := by omega
        exact ⟨os[i - 3], by rw [List.getElem?_append_right (by omega), hzl]; simp [hi], hosx (i - 3) y _ e (by simp [hi])⟩
    have hyx : (ys ++ xs).length = (n + 1) * 3 := by rw [List.length_append]; omega
    rw [k1, Nat.add_zero, Nat.add_zero]
    have hosc : ∀ (j : Nat) y, os[j]? = some y → w.cell? ⟨bi.blk, bi.sh + j, none⟩ = some y := fun j y hj => by rw [cell_in hh]; exact hosg j y hj
    rcases Nat.lt_or_ge (c2 + bi.r) (n + 1) with hroom | hroom
    · -- a new row
      refine (insert_grow bi.blk bi.sh n (c2 + bi.r) ci.blk os zs w hn (by omega) hroom (by omega) hosl hzl hosc hzg hos1 hz1).mono ?_
      rintro e w' ⟨ROW, hR, hG2, rfl, rfl⟩
      obtain ⟨g, hgc⟩ : ∃ g, g = grownCap w (n + 1) (c2 + bi.r) 79 := ⟨_, rfl⟩
      rw [← hgc] at hR hG2 ⊢
      have a0 : ((w.alloc (.cells ROW 79)).drew).heap[w.heap.size]? = some (.cells ROW 79 (0, 0)) := by
        show (w.heap.push _)[w.heap.size]? = _
        simp
      obtain ⟨c1, s1, s2, s3, s4, s5, s6, s7, s8⟩ := setCells_row w.heap.size _ _ zs 0 ROW _ a0 (by omega)
      obtain ⟨W1, hW1⟩ : ∃ W1, W1 = ((w.alloc (.cells ROW 79)).drew).setCells w.heap.size 0 zs := ⟨_, rfl⟩
      rw [← hW1] at s1 s4 s5 s6 s7 s8 ⊢
      obtain ⟨c3, u1, u2, u3, u4, u5, u6, u7, u8⟩ := setCells_row w.heap.size _ _ os 3 c1 W1.drew s1 (by omega)
      have hz : (w.alloc (.cells ROW 79)).drew.heap.size = w.heap.size + 1 := by show (w.heap.push _).size = _; simp
      have hst : Stp G σ μ w (σ.push (.row ⟨ys ++ xs, 79, true⟩)) (μ.add σ.next ⟨w.heap.size, 0, (n + 1) * 3, g - (n + 1), 3⟩) (W1.drew.setCells w.heap.size 3 os) := by
        refine Stp.grow hs hG hn0 rfl (show 0 < 3 by decide) (by rw [u4]; show W1.heap.size = _; rw [s4, hz]) (by rw [u6]; show W1.os = _; rw [s6]; rfl) (by rw [u7]; show W1.tape = _; rw [s7]; rfl) (by rw [u8]; show W1.output = _; rw [s8]; rfl) (fun B hB => ?_) fun μ' he => ?_
        · rw [u5 B (by omega)]
          show W1.heap[B]? = _
          rw [s5 B (by omega)]
          show (w.heap.push _)[B]? = _
          rw [Array.getElem?_push_lt hB, Array.getElem?_eq_getElem hB]
        · refine ⟨hyx, c3, (0, 0), _, u1, fun _ => ⟨rfl, .inl rfl, ?_, fun h => by cases h⟩, fun i x hi => ?_⟩
          · rw [u2, s2, hR]
            show g * 3 = 0 + (n + 1) * 3 + (g - (n + 1)) * 3
            omega
          · obtain ⟨y', e1, e2⟩ := hrel i x hi
            refine ⟨y', ?_, e2.ext he⟩
            rw [Nat.zero_add, u3]
            have hil : i < (zs ++ os).length := (List.getElem?_eq_some_iff.1 e1).1
            rw [List.length_append] at hil
            rcases Nat.lt_or_ge i 3 with h | h
            · rw [if_neg (by omega), s3, if_pos (by omega), Nat.sub_zero]
              rwa [List.getElem?_append_left (by omega)] at e1
            · rw [if_pos (by omega)]
              rwa [List.getElem?_append_right (by omega), hzl] at e1
      refine ⟨_, _, rfl, hst.forget ⟨rfl, fun c y hy' => ?_, rfl⟩, ?_⟩
      · rw [Mem.push_get] at hy' ⊢
        rw [hkn] at hy'
        split
        · rename_i e; rw [if_pos e] at hy'; exact hy'
        · rename_i e
          rw [if_neg e, Mem.kill_get] at hy'
          split at hy'
          · cases hy'
          · exact hy'
      · have := mk_grown (μ := μ.add σ.next ⟨w.heap.size, 0, (n + 1) * 3, g - (n + 1), 3⟩) (b := σ.next) (n := n + 1) (Mu.add_at _ _ _) (show 0 < 3 by decide)
        rwa [show n + 1 + (g - (n + 1)) = g by omega] at this
    · -- in place
      have hfit : bi.sh + (n + 1) * 3 ≤ cc.size := by rw [hcsz]; have := Nat.mul_le_mul_right 3 hroom; omega
      have hsb : w.shape? bi.blk = some (r.t, cc.size) := by simp [World.shape?, hh]
      have hsa : w.shape? ci.blk = some (79, dd.size) := by simp [World.shape?, kh]
      have hfb : ∀ i, w.frozen? ⟨ci.blk, i, none⟩ = false := fun i => by unfold World.frozen?; rw [kh]; simp
      refine (insert_room bi.blk bi.sh n (c2 + bi.r) ci.blk os zs w hn (by omega) hroom hne hosl hzl hosc (fun j hj => by rw [cell_in hh, Array.getElem?_eq_getElem (by omega)]; rfl) (fun j hj => frozen_off hh hfz (by omega)) hzg hos1 hz1 _ _ _ _ hsa hsb (by omega) (hfb _) (hfb _)).mono ?_
      rintro e w' ⟨rfl, rfl⟩
      have a0 : w.drew.heap[bi.blk]? = some (.cells cc r.t fz) := hh
      obtain ⟨c1, s1, s2, s3, s4, s5, s6, s7, s8⟩ := setCells_row bi.blk r.t fz os (bi.sh + 3) cc w.drew a0 (by omega)
      obtain ⟨W1, hW1⟩ : ∃ W1, W1 = w.drew.setCells bi.blk (bi.sh + 3) os := ⟨_, rfl⟩
      rw [← hW1] at s1 s4 s5 s6 s7 s8 ⊢
      obtain ⟨c3, u1, u2, u3, u4, u5, u6, u7, u8⟩ := setCells_row bi.blk r.t fz zs bi.sh c1 W1 s1 (by omega)
      have hst : Stp G σ μ w ((σ.kill q).push (.row ⟨ys ++ xs, 79, true⟩)) (μ.add σ.next ⟨bi.blk, bi.sh, (n + 1) * 3, c2 + bi.r - (n + 1), 3⟩) (W1.setCells bi.blk bi.sh zs) := by
        refine Stp.regrow hs hG hn0 hq hr hbi rfl (show 0 < 3 by decide) (by rw [u4, s4]; rfl) (by rw [u6, s6]; rfl) (by rw [u7, s7]; rfl) (by rw [u8, s8]; rfl) (fun B hB => by rw [u5 B hB, s5 B hB]; rfl) fun μ' he => ?_
        refine ⟨hyx, c3, fz, r.t, u1, fun _ => ⟨hte, ?_, ?_, fun h => by cases h⟩, fun i x hi => ?_⟩
        · rw [u2, s2]; exact hfz
        · rw [u2, s2, hcsz]
          show bi.sh + (c2 + bi.r) * 3 = bi.sh + (n + 1) * 3 + (c2 + bi.r - (n + 1)) * 3
          omega
        · obtain ⟨y', e1, e2⟩ := hrel i x hi
          refine ⟨y', ?_, e2.ext he⟩
          show c3[bi.sh + i]? = _
          have hil : i < (zs ++ os).length := (List.getElem?_eq_some_iff.1 e1).1
          rw [List.length_append] at hil
          rw [u3]
          rcases Nat.lt_or_ge i 3 with h | h
          · rw [if_pos (by omega), show bi.sh + i - bi.sh = i by omega]
            rwa [List.getElem?_append_left (by omega)] at e1
          · rw [if_neg (by omega), s3, if_pos (by omega), show bi.sh + i - (bi.sh + 3) = i - 3 by omega]
            rwa [List.getElem?_append_right (by omega), hzl] at e1
      refine ⟨_, _, rfl, hst, ?_⟩
      have := mk_grown (μ := μ.add σ.next ⟨bi.blk, bi.sh, (n + 1) * 3, c2 + bi.r - (n + 1), 3⟩) (b := σ.next) (n := n + 1) (Mu.add_at _ _ _) (show 0 < 3 by decide)
      rwa [show n + 1 + (c2 + bi.r - (n + 1)) = c2 + bi.r by omega] at this
  · refine H.grown 1 rfl (.row (r := ⟨ys ++ xs, 79, true⟩) (c := n + 1) H.gn ?_ rfl ?_ (Nat.le_refl _) ?_) (Nat.le_succ _) rfl (fun c y hy' hne => ?_) fun c hc => ?_
    · have := get_push (σ := σ.kill q) (x := .row ⟨ys ++ xs, 79, true⟩)
      rwa [hkn] at this
    · rw [List.length_append]; omega
    · rw [List.take_of_length_le]
      rw [List.length_append]; omega
    · exact get_push_old (get_kill_ne hy' fun e => hne (by rw [e]; rfl))
    · cases hc
      exact .inr (Nat.le_refl _)
end
end Go.Proofs.YtaaebeiigkhcjaaGreatDoor
