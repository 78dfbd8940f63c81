/-
  LayoutRows answers true in every world in which its arguments lie. Conditions: the two tables lie as laid.
-/
import Derived.Test.YtmmapljeeccdnaaDoorL7
import Derived.Test.YtmmapljeeccdnaaDoorLfAw
import Derived.Test.YtmmapljeeccdnaaDoorL3
namespace Go.Proofs.YtmmapljeeccdnaaDoor
open Go.RowKit
set_option maxRecDepth 100000
theorem rowsU_nodup : (rowsU.map (·.1)).Nodup := by unfold rowsU; simp
theorem rowsU_low64 : ∀ g cs, (g, cs) ∈ rowsU → g < 64 := fun g cs hm => Nat.lt_of_lt_of_le (rowsU_low g cs hm) (by decide)
theorem s_awake (G : Nat) (hG : 64 ≤ G) (σ : Mem) (hR : RowsAt rowsU σ) : SCall G Tryd.prog 11 #[] σ (.bool true) σ :=
 closed_scall k0_right awake_run rfl rfl rowsU_low (fun g cs hm => by have := rowsU_low g cs hm; omega) rowsU_flat σ hR
theorem keepsR {rs : List ARow} {σ' : Mem} (hR : RowsAt rowsU (argMem rowsU rs)) (h : ∀ b y, (argMem rowsU rs).get b = some y → σ'.get b = some y) : RowsAt rowsU σ' := fun g cs hm => by obtain ⟨t, b, hr⟩ := hR g cs hm; exact ⟨t, b, h _ _ hr⟩
theorem rows_any (v1 : Value) (fr to_ wd tab most : Int) (wrap : Bool) (l : List Prt) (w : World) (hT : Lib.Utf8Tabs 0 1 w) (i1 : FlatsA w 9 v1 l.length (pC l)) :
    Calls Tryd.prog 3 #[v1, .int .i64 fr, .int .i64 to_, .int .i64 wd, .int .i64 tab, .bool wrap, .int .i64 most] w fun e w' => e = .returned (.bool true) ∧ Below w.heap.size w w' := by
  obtain ⟨r, u1, p1, p3, s1⟩ := arg_flatsF (by decide) i1 0
  have hA : ∀ (k : Nat) (r' : ARow), [r][k]? = some r' → r'.cs ≠ [] → (argMem rowsU [r]).get (64 + k) = some (.row ⟨r'.cs, 0, true⟩) := fun k r' hr hc => argMem_at hr hc
  have hR : RowsAt rowsU (argMem rowsU [r]) := argMem_tab rowsU_nodup rowsU_low64
  have s2 := s1 (argMem rowsU [r]) fun hc => hA 0 r rfl hc
  obtain ⟨v, σ', hS, rfl⟩ := rows_law (G := 64 + [r].length) (σ0 := argMem rowsU [r]) (fr := fr) (to_ := to_) (wd := wd) (tab := tab) (wrap := wrap) (most := most) (Nat.le_refl _) rfl (by simp) (u8f_of hR) (fun σ' h => s_awake _ (by simp) σ' (keepsR hR h)) s2
  have p2 := p1 (argMu rowsU [r]) (argMu_at (k := 0) rfl)
  refine arg_calls (rows := [r]) (args := #[u1, .int .i64 fr, .int .i64 to_, .int .i64 wd, .int .i64 tab, .bool wrap, .int .i64 most]) (cargs := #[v1, .int .i64 fr, .int .i64 to_, .int .i64 wd, .int .i64 tab, .bool wrap, .int .i64 most]) (rowsU_lie hT) rowsU_low64 (fun k r' hr i u hu => ?_) ⟨rfl, fun i x x' h1 h2 => ?_⟩ hS rfl
  · match k, hr with
    | 0, hr => cases hr; exact ⟨u, (p3 i u hu).1, .flat _ (p3 i u hu).2⟩
    | k + 1, hr => simp at hr
  · match i, h1, h2 with
    | 0, h1, h2 => cases h1; cases h2; exact p2
    | 1, h1, h2 => cases h1; cases h2; exact .flat _ rfl
    | 2, h1, h2 => cases h1; cases h2; exact .flat _ rfl
    | 3, h1, h2 => cases h1; cases h2; exact .flat _ rfl
    | 4, h1, h2 => cases h1; cases h2; exact .flat _ rfl
    | 5, h1, h2 => cases h1; cases h2; exact .flat _ rfl
    | 6, h1, h2 => cases h1; cases h2; exact .flat _ rfl
    | i + 7, h1, _ => simp at h1
end Go.Proofs.YtmmapljeeccdnaaDoor
