/-
  A specification and a prefix argument among a law's arguments, in the second memory. Conditions: none.
  CommandSpecs answers true in every world in which its arguments lie. Conditions: the two tables lie as laid.
-/
import Derived.Test.YthemeeiedlbhkaaDoorK2
import Derived.Test.YthemeeiedlbhkaaDoorN2
import Derived.WideShapes
import Derived.Lib.SmallJoins
import Derived.Test.YthemeeiedlbhkaaDoorN8
namespace Go.Proofs.YthemeeiedlbhkaaDoor
open Go.ChangeShapes Go.WideShapes Go.ChangeAt Go.RowKit
set_option maxRecDepth 100000
theorem needC_get : ∀ {l : List Need} {i : Nat} {u : Value}, (needC l)[i]? = some u → ∃ (j : Nat) (x : Need) (k : Nat), l[j]? = some x ∧ (celN x)[k]? = some u ∧ i = j * 2 + k
 | [], _, _, h => by simp [needC, rowX] at h
 | x :: l, i, u, h => by
  rw [show needC (x :: l) = celN x ++ needC l from rfl] at h
  rcases Nat.lt_or_ge i 2 with hi | hi
  ·rw [List.getElem?_append_left (by exact hi)] at h
   exact ⟨0, x, i, rfl, h, by omega⟩
  ·rw [List.getElem?_append_right (by exact hi)] at h
   obtain ⟨j, y, k, h1, h2, h3⟩ := needC_get (l := l) h
   have h3 : i - 2 = j * 2 + k := h3
   exact ⟨j + 1, y, k, by simpa using h1, h2, by omega⟩
theorem need_flat {x : Need} {u : Value} (h : u ∈ celN x) : flatV u = true := by
 simp only [celN, List.mem_cons, List.mem_nil_iff, or_false] at h
 rcases h with rfl | rfl <;> rfl
theorem needC_flat {l : List Need} {u : Value} (h : u ∈ needC l) : flatV u = true := by
 obtain ⟨i, hi⟩ := List.getElem?_of_mem h
 obtain ⟨_, _, _, _, h2, _⟩ := needC_get hi
 exact need_flat (List.mem_of_getElem? h2)
section
variable {H : Type} {enc : TypeId × Value → H} {w : World}
theorem need_open {n : Nat} {cs : List Value} {y : DataW H × List MemPlace} {base : Nat} {spare : Nat → Bool} {held : Bool} (hl : cs.length = 2) (h : DataW.trod enc Tryd.prog w base spare held n 29 cs = some y) : ∃ x : Need, cs = celN x := by
 obtain ⟨xs, k, hk, hxy, _, hxl, hf⟩ := DataW.trod_struct Tryd.underlying29 h
 match xs, hxl, cs, hl with
 | [y0, y1], _, [v0, v1], _ =>
  have g0 : DataW.trod enc Tryd.prog w base spare held k 3 ((([v0, v1] : List Value).drop 0).take (Tryd.prog.cellsOf 3)) = some y0 := hf 0 _ rfl
  have g1 : DataW.trod enc Tryd.prog w base spare held k 9 ((([v0, v1] : List Value).drop 1).take (Tryd.prog.cellsOf 9)) = some y1 := hf 1 _ rfl
  rw [show Tryd.prog.cellsOf 3 = 1 from by kernel_rfl] at g0
  rw [show Tryd.prog.cellsOf 9 = 1 from by kernel_rfl] at g1
  simp only [List.drop_succ_cons, List.drop_zero, List.take_succ_cons, List.take_zero] at g0 g1
  obtain ⟨a0, p0, _, _⟩ := DataW.trod_int Tryd.underlying3 g0
  obtain ⟨a1, p1, _, _⟩ := DataW.trod_string Tryd.underlying9 g1
  simp at p0 p1
  subst p0 p1
  refine ⟨(a0, a1.data.toList), ?_⟩
  have e : (⟨a1.data.toList.toArray⟩ : ByteArray) = a1 := Go.WideShapes.bytes_inj (by simp)
  show _ = [_, Value.string ⟨a1.data.toList.toArray⟩]
  rw [e]
theorem needs_open {n : Nat} {v : Value} {y : DataW H × List MemPlace} {held : Bool} (h : DataW.trod enc Tryd.prog w 0 (fun _ => true) held n 22 [v] = some y) : ∃ ps : List Need, FlatsA w 2 v ps.length (needC ps) := by
 rcases Go.Deep.open_slice Tryd.underlying22 h with ⟨hcs, _⟩ | ⟨a', len', cap', m, n, D, Pl, hcs, _, hl, hm, hmm, _, hi⟩
 ·simp at hcs
  subst hcs
  exact ⟨[], none, 0, rfl, rfl, fun _ => rfl, fun u hu => by simp [needC, rowX] at hu, fun h => absurd h (by simp)⟩
 ·simp at hcs
  subst hcs
  have hlm : len' ≤ m := by rw [hmm]; split <;> omega
  have each : ∀ i, i < len' → ∃ x : Need, ∀ k u, (celN x)[k]? = some u → w.cell? (a'.add (i * 2 + k)) = some u := by
   intro i hil
   obtain ⟨cs', h1, h2⟩ := hi i (by omega)
   rw [show Tryd.prog.cellsOf 29 = 2 from by kernel_rfl] at h1
   obtain ⟨_, hlen, hcell⟩ := World.cells?_some h1
   obtain ⟨x, rfl⟩ := need_open hlen h2
   refine ⟨x, fun k u hk => ?_⟩
   have hk6 : k < 2 := (List.getElem?_eq_some_iff.1 hk).1
   have e0 := hcell k hk6
   rw [Go.Deep.add_add] at e0
   rw [e0, hk]
  obtain ⟨q, hq⟩ := Go.Deep.choose_lt each
  refine ⟨(List.range len').map q, some a', cap', by simp, by rw [needC_len], (fun h => by cases h), fun u hu => needC_flat hu, fun h0 => ?_⟩
  simp at h0
  obtain ⟨b, off, spot⟩ := a'
  have hspot : spot = none := by simpa [Addr.add] using World.cell?_spot (hq 0 h0 0 _ rfl)
  subst hspot
  refine ⟨b, off, rfl, fun i u hu => ?_⟩
  obtain ⟨j, x, k, h1, h2, rfl⟩ := needC_get hu
  have hj' : j < len' := by have := (List.getElem?_eq_some_iff.1 h1).1; simpa using this
  have hy : x = q j := by simpa [hj'] using h1.symm
  subst hy
  have := hq j hj' k u h2
  rwa [addr_plain] at this
theorem open_spec {r : Reach} {b0 : Nat} {v : Value} {d : DataW H} {p : List MemPlace} (hv : Value.okWide Tryd.prog w r b0 24 v) (h : DataW.Trod enc Tryd.prog w 0 (fun _ => true) true 24 v d p) : ∃ (f g k : Bool) (u : Value) (ps : List Need), v = .agg #[.bool f, .bool g, .bool k, u] ∧ FlatsA w 2 u ps.length (needC ps) := by
 obtain ⟨v0, v1, v2, v3, y0, y1, y2, y3, n, rfl, _, _, h0, h1, h2, h3⟩ := Go.Joins.open_agg4 Tryd.underlying24 (by kernel_rfl) (by kernel_rfl) hv h
 obtain ⟨z0, q0, _⟩ := DataW.trod_bool Tryd.underlying4 h0
 obtain ⟨z1, q1, _⟩ := DataW.trod_bool Tryd.underlying4 h1
 obtain ⟨z2, q2, _⟩ := DataW.trod_bool Tryd.underlying4 h2
 simp at q0 q1 q2
 subst q0 q1 q2
 obtain ⟨ps, hp⟩ := needs_open h3
 exact ⟨z0, z1, z2, v3, ps, rfl, hp⟩
theorem open_pref {r : Reach} {b0 : Nat} {v : Value} {d : DataW H} {p : List MemPlace} (hv : Value.okWide Tryd.prog w r b0 26 v) (h : DataW.Trod enc Tryd.prog w 0 (fun _ => true) true 26 v d p) : ∃ (a b : Int) (c : Bool), v = .agg #[.int .i64 a, .int .i64 b, .bool c] := by
 obtain ⟨v0, v1, v2, y0, y1, y2, n, rfl, _, _, h0, h1, h2⟩ := Go.Joins.open_agg3 Tryd.underlying26 (by kernel_rfl) (by kernel_rfl) hv h
 obtain ⟨z0, q0, _, _⟩ := DataW.trod_int Tryd.underlying3 h0
 obtain ⟨z1, q1, _, _⟩ := DataW.trod_int Tryd.underlying3 h1
 obtain ⟨z2, q2, _⟩ := DataW.trod_bool Tryd.underlying4 h2
 simp at q0 q1 q2
 subst q0 q1 q2
 exact ⟨z0, z1, z2, rfl⟩
end
end Go.Proofs.YthemeeiedlbhkaaDoor
namespace Go.Proofs.YthemeeiedlbhkaaDoor
open Go.RowKit
set_option maxRecDepth 100000
theorem rowsU_nodup : (rowsU.map (·.1)).Nodup := by unfold rowsU; simp
theorem rowsU_low64 : ∀ g cs, (g, cs) ∈ rowsU → g < 64 := fun g cs hm => Nat.lt_of_lt_of_le (rowsU_low g cs hm) (by decide)
theorem s_awake (G : Nat) (hG : 64 ≤ G) (σ : Mem) (hR : RowsAt rowsU σ) : SCall G Tryd.prog 5 #[] σ (.bool true) σ :=
 closed_scall k0_right awake_run rfl rfl rowsU_low (fun g cs hm => by have := rowsU_low g cs hm; omega) rowsU_flat σ hR
theorem keepsR {rs : List ARow} {σ' : Mem} (hR : RowsAt rowsU (argMem rowsU rs)) (h : ∀ b y, (argMem rowsU rs).get b = some y → σ'.get b = some y) : RowsAt rowsU σ' := fun g cs hm => by obtain ⟨t, b, hr⟩ := hR g cs hm; exact ⟨t, b, h _ _ hr⟩
theorem ba_of (s : ByteArray) : (⟨s.data.toList.toArray⟩ : ByteArray) = s := Go.WideShapes.bytes_inj (by simp)
theorem cspecs_any (s : ByteArray) (f g k : Bool) (u : Value) (l : List Need) (cd pa pb : Int) (pc : Bool) (w : World) (hT : Lib.Utf8Tabs 0 1 w) (i1 : FlatsA w 2 u l.length (needC l)) :
    Calls Tryd.prog 3 #[.string s, .agg #[.bool f, .bool g, .bool k, u], .int .i64 cd, .agg #[.int .i64 pa, .int .i64 pb, .bool pc]] w fun e w' => e = .returned (.bool true) ∧ Below w.heap.size w w' := by
  obtain ⟨r, u1, p1, p3, s1⟩ := arg_flatsF (by decide) i1 0
  have hA : ∀ (k : Nat) (r' : ARow), [r][k]? = some r' → r'.cs ≠ [] → (argMem rowsU [r]).get (64 + k) = some (.row ⟨r'.cs, 0, true⟩) := fun k r' hr hc => argMem_at hr hc
  have hR : RowsAt rowsU (argMem rowsU [r]) := argMem_tab rowsU_nodup rowsU_low64
  have s2 := s1 (argMem rowsU [r]) fun hc => hA 0 r rfl hc
  have hlaw := cspecs_law (G := 64 + [r].length) (σ0 := argMem rowsU [r]) (s := s.data.toList) (xw := f) (xe := g) (xh := k) (cd := cd) (pa := pa) (pb := pb) (pc := pc) (Nat.le_refl _) rfl (by simp) (by simp) (u8f_of hR) (fun σ' h => s_awake _ (by simp) σ' (keepsR hR h)) s2
  rw [ba_of] at hlaw
  obtain ⟨v, σ', hS, rfl⟩ := hlaw
  have p2 := p1 (argMu rowsU [r]) (argMu_at (k := 0) rfl)
  refine arg_calls (rows := [r]) (args := #[.string s, .agg #[.bool f, .bool g, .bool k, u1], .int .i64 cd, .agg #[.int .i64 pa, .int .i64 pb, .bool pc]]) (cargs := #[.string s, .agg #[.bool f, .bool g, .bool k, u], .int .i64 cd, .agg #[.int .i64 pa, .int .i64 pb, .bool pc]]) (rowsU_lie hT) rowsU_low64 (fun k r' hr i u hu => ?_) ⟨rfl, fun i x x' h1 h2 => ?_⟩ hS rfl
  · match k, hr with
    | 0, hr => cases hr; exact ⟨u, (p3 i u hu).1, .flat _ (p3 i u hu).2⟩
    | k + 1, hr => simp at hr
  · match i, h1, h2 with
    | 0, h1, h2 => cases h1; cases h2; exact .flat _ rfl
    | 1, h1, h2 =>
      cases h1; cases h2
      refine .agg _ _ rfl fun i x x' h1 h2 => ?_
      match i, h1, h2 with
      | 0, h1, h2 => cases h1; cases h2; exact .flat _ rfl
      | 1, h1, h2 => cases h1; cases h2; exact .flat _ rfl
      | 2, h1, h2 => cases h1; cases h2; exact .flat _ rfl
      | 3, h1, h2 => cases h1; cases h2; exact p2
      | i + 4, h1, _ => simp at h1
    | 2, h1, h2 => cases h1; cases h2; exact .flat _ rfl
    | 3, h1, h2 =>
      cases h1; cases h2
      refine .agg _ _ rfl fun i x x' h1 h2 => ?_
      match i, h1, h2 with
      | 0, h1, h2 => cases h1; cases h2; exact .flat _ rfl
      | 1, h1, h2 => cases h1; cases h2; exact .flat _ rfl
      | 2, h1, h2 => cases h1; cases h2; exact .flat _ rfl
      | i + 3, h1, _ => simp at h1
    | i + 4, h1, _ => simp at h1
end Go.Proofs.YthemeeiedlbhkaaDoor
