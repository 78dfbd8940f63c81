/-
  Lists of strings among a law's arguments, in the second memory. Conditions: none.
  Strings handed to the laws of completion; the closed laws in the second memory. Conditions: none.
  CompleteKinds answers true in every world in which its arguments lie. Conditions: the two tables lie as laid.
-/
import Derived.Test.YtjcmdifpkafdkaaDoorK2
import Derived.Test.YtjcmdifpkafdkaaDoorC1
import Derived.SliceStrings
import Derived.WideShapes
import Derived.Test.YtjcmdifpkafdkaaDoorCkAw
import Derived.Test.YtjcmdifpkafdkaaDoorCxb
namespace Go.Proofs.YtjcmdifpkafdkaaDoor
open Go.ChangeShapes Go.WideShapes Go.ChangeAt Go.RowKit
set_option maxRecDepth 100000
theorem strs_flat {l : List (List UInt8)} {u : Value} (h : u ∈ l.map strV) : flatV u = true := by
 obtain ⟨s, _, rfl⟩ := List.mem_map.1 h
 rfl
section
variable {H : Type} {enc : TypeId × Value → H} {w : World}
theorem open_strs {r : Reach} {b0 : Nat} {v : Value} {d : DataW H} {p : List MemPlace} (hv : Value.okWide Tryd.prog w r b0 22 v) (h : DataW.Trod enc Tryd.prog w 0 (fun _ => true) true 22 v d p) : ∃ l : List (List UInt8), FlatsA w 1 v l.length (l.map strV) ∧ l.length ≤ 9223372036854775807 := by
 obtain ⟨a, len, cap, rfl⟩ := okWide_slice Tryd.underlying22 hv
 obtain ⟨fuel, hf⟩ := h
 rcases open_strings Tryd.underlying22 Tryd.underlying9 (by kernel_rfl) hf with ⟨hcs, _⟩ | ⟨x, n, c, ss, hcs, _, hl, hm, hz, _, hcell, _⟩
 ·simp [Value.cells] at hcs
  obtain ⟨rfl, rfl, rfl⟩ := hcs
  exact ⟨[], ⟨none, 0, rfl, rfl, fun _ => rfl, fun u hu => by simp at hu, fun h => absurd h (by simp)⟩, by simp⟩
 ·simp [Value.cells] at hcs
  obtain ⟨rfl, rfl, rfl⟩ := hcs
  have hzl : ss.length = cap := by simpa using hz
  have hml : cap ≤ 9223372036854775807 := by simpa [maxLen] using hm
  have hlen : ((ss.take len).map fun s => s.data.toList).length = len := by simp; omega
  have hstr : ∀ s : ByteArray, strV s.data.toList = .string s := fun s => by
   show Value.string ⟨s.data.toList.toArray⟩ = _
   rw [show (⟨s.data.toList.toArray⟩ : ByteArray) = s from Go.WideShapes.bytes_inj (by simp)]
  refine ⟨(ss.take len).map fun s => s.data.toList, ⟨some x, cap, by rw [hlen], by rw [List.length_map, Nat.mul_one], (fun h => by cases h), fun u hu => strs_flat hu, fun h0 => ?_⟩, by rw [hlen]; omega⟩
  rw [hlen] at h0
  obtain ⟨b, off, spot⟩ := x
  have h00 := hcell 0 (by omega)
  have hspot : spot = none := by simpa [Addr.add] using World.cell?_spot h00
  subst hspot
  refine ⟨b, off, rfl, fun i u hu => ?_⟩
  rw [List.map_map, List.getElem?_map] at hu
  have hi : i < len := by
   rcases Nat.lt_or_ge i len with h | h
   ·exact h
   ·rw [List.getElem?_eq_none (by simp; omega)] at hu
    cases hu
  rw [List.getElem?_take, if_pos hi, List.getElem?_eq_getElem (show i < ss.length by omega), Option.map_some] at hu
  have h3 := hcell i (by omega)
  rw [addr_plain] at h3
  rw [h3]
  rw [← Option.some.inj hu]
  show some (Value.string (ss.getD i ByteArray.empty)) = some (strV (ss[i]).data.toList)
  rw [hstr, List.getD_eq_getElem?_getD, List.getElem?_eq_getElem (show i < ss.length by omega)]
  rfl
end
end Go.Proofs.YtjcmdifpkafdkaaDoor
namespace Go.Proofs.YtjcmdifpkafdkaaDoor
open Go.RowKit
set_option maxRecDepth 100000
theorem rowsU_nodup : (rowsU.map (·.1)).Nodup := by unfold rowsU; simp
theorem rowsU_low64 : ∀ g cs, (g, cs) ∈ rowsU → g < 64 := fun g cs hm => Nat.lt_of_lt_of_le (rowsU_low g cs hm) (by decide)
theorem s_known (G : Nat) (hG : 64 ≤ G) (σ : Mem) (hR : RowsAt rowsU σ) : SCall G Tryd.prog 6 #[] σ (.bool true) σ :=
 closed_scall k0_right known_run2 rfl rfl rowsU_low (fun g cs hm => by have := rowsU_low g cs hm; omega) rowsU_flat σ hR
theorem keepsR {rs : List ARow} {σ' : Mem} (hR : RowsAt rowsU (argMem rowsU rs)) (h : ∀ b y, (argMem rowsU rs).get b = some y → σ'.get b = some y) : RowsAt rowsU σ' := fun g cs hm => by obtain ⟨t, b, hr⟩ := hR g cs hm; exact ⟨t, b, h _ _ hr⟩
theorem ba_of (s : ByteArray) : (⟨s.data.toList.toArray⟩ : ByteArray) = s := Go.WideShapes.bytes_inj (by simp)
end Go.Proofs.YtjcmdifpkafdkaaDoor
namespace Go.Proofs.YtjcmdifpkafdkaaDoor
open Go.RowKit
set_option maxRecDepth 100000
theorem ckinds_any (v1 v2 : Value) (s : ByteArray) (fold : Bool) (l rc : List (List UInt8)) (w : World) (hT : Lib.Utf8Tabs 0 1 w) (i1 : FlatsA w 1 v1 l.length (l.map strV)) (i2 : FlatsA w 1 v2 rc.length (rc.map strV)) (hl : l.length ≤ 9223372036854775807) (hr : rc.length ≤ 9223372036854775807) :
    Calls Tryd.prog 8 #[v1, v2, .string s, .bool fold] w fun e w' => e = .returned (.bool true) ∧ Below w.heap.size w w' := by
  obtain ⟨r, u1, p1, p3, s1⟩ := arg_flatsF (by decide) i1 0
  obtain ⟨q, t1, x1, x3, y1⟩ := arg_flatsF (by decide) i2 1
  have hA : ∀ (k : Nat) (r' : ARow), [r, q][k]? = some r' → r'.cs ≠ [] → (argMem rowsU [r, q]).get (64 + k) = some (.row ⟨r'.cs, 0, true⟩) := fun k r' hr hc => argMem_at hr hc
  have hR : RowsAt rowsU (argMem rowsU [r, q]) := argMem_tab rowsU_nodup rowsU_low64
  have s2 := s1 (argMem rowsU [r, q]) fun hc => hA 0 r rfl hc
  have y2 := y1 (argMem rowsU [r, q]) fun hc => hA 1 q rfl hc
  have hlaw := ckinds_law (G := 64 + [r, q].length) (σ0 := argMem rowsU [r, q]) (s := s.data.toList) (fold := fold) (Nat.le_refl _) rfl (by simp) (u8f_of hR) (fun σ' h => s_known _ (by simp) σ' (keepsR hR h)) hl hr s2 y2
  rw [ba_of] at hlaw
  obtain ⟨v, σ', hS, rfl⟩ := hlaw
  have p2 := p1 (argMu rowsU [r, q]) (argMu_at (k := 0) rfl)
  have x2 := x1 (argMu rowsU [r, q]) (argMu_at (k := 1) rfl)
  refine arg_calls (rows := [r, q]) (args := #[u1, t1, .string s, .bool fold]) (cargs := #[v1, v2, .string s, .bool fold]) (rowsU_lie hT) rowsU_low64 (fun k r' hr i u hu => ?_) ⟨rfl, fun i x x' h1 h2 => ?_⟩ hS rfl
  · match k, hr with
    | 0, hr => cases hr; exact ⟨u, (p3 i u hu).1, .flat _ (p3 i u hu).2⟩
    | 1, hr => cases hr; exact ⟨u, (x3 i u hu).1, .flat _ (x3 i u hu).2⟩
    | k + 2, hr => simp at hr
  · match i, h1, h2 with
    | 0, h1, h2 => cases h1; cases h2; exact p2
    | 1, h1, h2 => cases h1; cases h2; exact x2
    | 2, h1, h2 => cases h1; cases h2; exact .flat _ rfl
    | 3, h1, h2 => cases h1; cases h2; exact .flat _ rfl
    | i + 4, h1, _ => simp at h1
end Go.Proofs.YtjcmdifpkafdkaaDoor
