/-
  Ranges among a law's arguments, in the second memory. Conditions: none.
  RegexReplaced answers true in every world in which its arguments lie. Conditions: the two tables lie as laid.
-/
import Derived.Test.YtmlmnbcnfalaaaaDoorK2
import Derived.Test.YtmlmnbcnfalaaaaDoorN2
import Derived.WideShapes
import Derived.OpenShut
import Derived.Test.YtmlmnbcnfalaaaaDoorRvd
import Derived.Test.YtmlmnbcnfalaaaaDoorRvL
namespace Go.Proofs.YtmlmnbcnfalaaaaDoor
open Go.ChangeShapes Go.WideShapes Go.ChangeAt Go.RowKit
set_option maxRecDepth 100000
theorem gC_len (l : List (Int × Int)) : (gC l).length = l.length * 2 := rowX_len (cel := celG) (fun _ => rfl) l
theorem gC_get : ∀ {l : List (Int × Int)} {i : Nat} {u : Value}, (gC l)[i]? = some u → ∃ (j : Nat) (x : (Int × Int)) (k : Nat), l[j]? = some x ∧ (celG x)[k]? = some u ∧ i = j * 2 + k
 | [], _, _, h => by simp [gC, rowX] at h
 | x :: l, i, u, h => by
  rw [show gC (x :: l) = celG x ++ gC l from rfl] at h
  rcases Nat.lt_or_ge i 2 with hi | hi
  ·rw [List.getElem?_append_left (by exact hi)] at h
   exact ⟨0, x, i, rfl, h, by omega⟩
  ·rw [List.getElem?_append_right (by exact hi)] at h
   obtain ⟨j, y, k, h1, h2, h3⟩ := gC_get (l := l) h
   have h3 : i - 2 = j * 2 + k := h3
   exact ⟨j + 1, y, k, by simpa using h1, h2, by omega⟩
theorem celG_flat {x : (Int × Int)} {u : Value} (h : u ∈ celG x) : flatV u = true := by
 simp only [celG, List.mem_cons, List.mem_nil_iff, or_false] at h
 rcases h with rfl | rfl <;> rfl
theorem gC_flat {l : List (Int × Int)} {u : Value} (h : u ∈ gC l) : flatV u = true := by
 obtain ⟨i, hi⟩ := List.getElem?_of_mem h
 obtain ⟨_, _, _, _, h2, _⟩ := gC_get hi
 exact celG_flat (List.mem_of_getElem? h2)
section
variable {H : Type} {enc : TypeId × Value → H} {w : World}
theorem rng_open {n : Nat} {cs : List Value} {y : DataW H × List MemPlace} {base : Nat} {spare : Nat → Bool} {held : Bool} (hl : cs.length = 2) (h : DataW.trod enc Tryd.prog w base spare held n 35 cs = some y) : ∃ x : Int × Int, cs = celG x ∧ (-9223372036854775808 ≤ x.1 ∧ x.1 ≤ 9223372036854775807) ∧ (-9223372036854775808 ≤ x.2 ∧ x.2 ≤ 9223372036854775807) := by
 obtain ⟨xs, k, hk, hxy, _, hxl, hf⟩ := DataW.trod_array Tryd.underlying35 h
 match xs, hxl, cs, hl with
 | [y0, y1], _, [v0, v1], _ =>
  have g0 : DataW.trod enc Tryd.prog w base spare held k 3 ((([v0, v1] : List Value).drop (0 * Tryd.prog.cellsOf 3)).take (Tryd.prog.cellsOf 3)) = some y0 := hf 0 (by decide)
  have g1 : DataW.trod enc Tryd.prog w base spare held k 3 ((([v0, v1] : List Value).drop (1 * Tryd.prog.cellsOf 3)).take (Tryd.prog.cellsOf 3)) = some y1 := hf 1 (by decide)
  rw [show Tryd.prog.cellsOf 3 = 1 from by kernel_rfl] at g0 g1
  simp only [Nat.zero_mul, Nat.mul_one, List.drop_succ_cons, List.drop_zero, List.take_succ_cons, List.take_zero] at g0 g1
  obtain ⟨a0, p0, _, w0⟩ := DataW.trod_int Tryd.underlying3 g0
  obtain ⟨a1, p1, _, w1⟩ := DataW.trod_int Tryd.underlying3 g1
  simp at p0 p1
  subst p0 p1
  exact ⟨(a0, a1), rfl, int_bounds w0, int_bounds w1⟩
theorem rngs_open {n : Nat} {v : Value} {y : DataW H × List MemPlace} {held : Bool} (h : DataW.trod enc Tryd.prog w 0 (fun _ => true) held n 32 [v] = some y) : ∃ ps : List (Int × Int), FlatsA w 2 v ps.length (gC ps) ∧ ∀ x ∈ ps, (-9223372036854775808 ≤ x.1 ∧ x.1 ≤ 9223372036854775807) ∧ (-9223372036854775808 ≤ x.2 ∧ x.2 ≤ 9223372036854775807) := by
 rcases Go.Deep.open_slice Tryd.underlying32 h with ⟨hcs, _⟩ | ⟨a', len', cap', m, n, D, Pl, hcs, _, hl, hm, hmm, _, hi⟩
 ·simp at hcs
  subst hcs
  exact ⟨[], ⟨none, 0, rfl, rfl, fun _ => rfl, fun u hu => by simp [gC, rowX] at hu, fun h => absurd h (by simp)⟩, by simp⟩
 ·simp at hcs
  subst hcs
  have hlm : len' ≤ m := by rw [hmm]; split <;> omega
  have each : ∀ i, i < len' → ∃ x : Int × Int, (∀ k u, (celG x)[k]? = some u → w.cell? (a'.add (i * 2 + k)) = some u) ∧ (-9223372036854775808 ≤ x.1 ∧ x.1 ≤ 9223372036854775807) ∧ (-9223372036854775808 ≤ x.2 ∧ x.2 ≤ 9223372036854775807) := by
   intro i hil
   obtain ⟨cs', h1, h2⟩ := hi i (by omega)
   rw [show Tryd.prog.cellsOf 35 = 2 from by kernel_rfl] at h1
   obtain ⟨_, hlen, hcell⟩ := World.cells?_some h1
   obtain ⟨x, rfl, hb⟩ := rng_open hlen h2
   refine ⟨x, fun k u hk => ?_, hb⟩
   have hk6 : k < 2 := (List.getElem?_eq_some_iff.1 hk).1
   have e0 := hcell k hk6
   rw [Go.Deep.add_add] at e0
   rw [e0, hk]
  obtain ⟨q, hq⟩ := Go.Deep.choose_lt each
  refine ⟨(List.range len').map q, ⟨some a', cap', by simp, by rw [gC_len], (fun h => by cases h), fun u hu => gC_flat hu, fun h0 => ?_⟩, fun x hx => ?_⟩
  rotate_left
  ·obtain ⟨j, hj, rfl⟩ := List.mem_map.1 hx
   exact (hq j (List.mem_range.1 hj)).2
  simp at h0
  obtain ⟨b, off, spot⟩ := a'
  have hspot : spot = none := by simpa [Addr.add] using World.cell?_spot ((hq 0 h0).1 0 _ rfl)
  subst hspot
  refine ⟨b, off, rfl, fun i u hu => ?_⟩
  obtain ⟨j, x, k, h1, h2, rfl⟩ := gC_get hu
  have hj' : j < len' := by have := (List.getElem?_eq_some_iff.1 h1).1; simpa using this
  have hy : x = q j := by simpa [hj'] using h1.symm
  subst hy
  have := (hq j hj').1 k u h2
  rwa [addr_plain] at this
theorem open_rngs {r : Reach} {b0 : Nat} {v : Value} {d : DataW H} {p : List MemPlace} (hv : Value.okWide Tryd.prog w r b0 32 v) (h : DataW.Trod enc Tryd.prog w 0 (fun _ => true) true 32 v d p) : ∃ ps : List (Int × Int), FlatsA w 2 v ps.length (gC ps) ∧ ∀ x ∈ ps, (-9223372036854775808 ≤ x.1 ∧ x.1 ≤ 9223372036854775807) ∧ (-9223372036854775808 ≤ x.2 ∧ x.2 ≤ 9223372036854775807) := by
 obtain ⟨a, len, cap, rfl⟩ := okWide_slice Tryd.underlying32 hv
 obtain ⟨fuel, hf⟩ := h
 exact rngs_open (v := .slice a len cap) hf
end
end Go.Proofs.YtmlmnbcnfalaaaaDoor
namespace Go.Proofs.YtmlmnbcnfalaaaaDoor
open Go.RowKit
set_option maxRecDepth 100000
theorem rowsU_nodup : (rowsU.map (·.1)).Nodup := by unfold rowsU; simp
theorem rowsU_low64 : ∀ g cs, (g, cs) ∈ rowsU → g < 64 := fun g cs hm => Nat.lt_of_lt_of_le (rowsU_low g cs hm) (by decide)
theorem s_lives (G : Nat) (hG : 64 ≤ G) (σ : Mem) (hR : RowsAt rowsU σ) : SCall G Tryd.prog 11 #[] σ (.bool true) σ :=
 closed_scall k0_right lives_run rfl rfl rowsU_low (fun g cs hm => by have := rowsU_low g cs hm; omega) rowsU_flat σ hR
theorem keepsR {rs : List ARow} {σ' : Mem} (hR : RowsAt rowsU (argMem rowsU rs)) (h : ∀ b y, (argMem rowsU rs).get b = some y → σ'.get b = some y) : RowsAt rowsU σ' := fun g cs hm => by obtain ⟨t, b, hr⟩ := hR g cs hm; exact ⟨t, b, h _ _ hr⟩
theorem ba_of (s : ByteArray) : (⟨s.data.toList.toArray⟩ : ByteArray) = s := Go.WideShapes.bytes_inj (by simp)
theorem replaced_any (a b s : ByteArray) (u : Value) (l : List (Int × Int)) (w : World) (hT : Lib.Utf8Tabs 0 1 w) (i1 : FlatsA w 2 u l.length (gC l)) (b1 : ∀ x ∈ l, (-9223372036854775808 ≤ x.1 ∧ x.1 ≤ 9223372036854775807) ∧ (-9223372036854775808 ≤ x.2 ∧ x.2 ≤ 9223372036854775807)) :
    Calls Tryd.prog 9 #[.string a, .string b, .string s, u] w fun e w' => e = .returned (.bool true) ∧ Below w.heap.size w w' := by
  obtain ⟨r, u1, p1, p3, s1⟩ := arg_flatsF (by decide) i1 0
  have hA : ∀ (k : Nat) (r' : ARow), [r][k]? = some r' → r'.cs ≠ [] → (argMem rowsU [r]).get (64 + k) = some (.row ⟨r'.cs, 0, true⟩) := fun k r' hr hc => argMem_at hr hc
  have hR : RowsAt rowsU (argMem rowsU [r]) := argMem_tab rowsU_nodup rowsU_low64
  have s2 := s1 (argMem rowsU [r]) fun hc => hA 0 r rfl hc
  have hlaw := replaced_law (G := 64 + [r].length) (σ0 := argMem rowsU [r]) (a := a.data.toList) (b := b.data.toList) (s := s.data.toList) (Nat.le_refl _) rfl (by simp) (u8f_of hR) (fun σ' h => s_lives _ (by simp) σ' (keepsR hR h)) s2 b1
  rw [ba_of, ba_of, ba_of] at hlaw
  obtain ⟨v, σ', hS, rfl⟩ := hlaw
  have p2 := p1 (argMu rowsU [r]) (argMu_at (k := 0) rfl)
  refine arg_calls (rows := [r]) (args := #[.string a, .string b, .string s, u1]) (cargs := #[.string a, .string b, .string s, u]) (rowsU_lie hT) rowsU_low64 (fun k r' hr i u hu => ?_) ⟨rfl, fun i x x' h1 h2 => ?_⟩ hS rfl
  · match k, hr with
    | 0, hr => cases hr; exact ⟨u, (p3 i u hu).1, .flat _ (p3 i u hu).2⟩
    | k + 1, hr => simp at hr
  · match i, h1, h2 with
    | 0, h1, h2 => cases h1; cases h2; exact .flat _ rfl
    | 1, h1, h2 => cases h1; cases h2; exact .flat _ rfl
    | 2, h1, h2 => cases h1; cases h2; exact .flat _ rfl
    | 3, h1, h2 => cases h1; cases h2; exact p2
    | i + 4, h1, _ => simp at h1
end Go.Proofs.YtmlmnbcnfalaaaaDoor
