/-
  LayoutPlaces answers true in every world in which its arguments lie. Conditions: the two tables lie as laid.
-/
import Derived.Test.YtmmapljeeccdnaaDoorLyk
import Derived.Test.YtmmapljeeccdnaaDoorL5
namespace Go.Proofs.YtmmapljeeccdnaaDoor
open Go.RowKit
set_option maxRecDepth 100000
theorem places_any (v1 : Value) (fr to_ wd tab : Int) (wrap : Bool) (l : List Prt) (w : World) (hT : Lib.Utf8Tabs 0 1 w) (i1 : FlatsA w 9 v1 l.length (pC l)) :
    Calls Tryd.prog 7 #[v1, .int .i64 fr, .int .i64 to_, .int .i64 wd, .int .i64 tab, .bool wrap] w fun e w' => e = .returned (.bool true) ∧ Below w.heap.size w w' := by
  obtain ⟨r, u1, p1, p3, s1⟩ := arg_flatsF (by decide) i1 0
  have hA : ∀ (k : Nat) (r' : ARow), [r][k]? = some r' → r'.cs ≠ [] → (argMem rowsU [r]).get (64 + k) = some (.row ⟨r'.cs, 0, true⟩) := fun k r' hr hc => argMem_at hr hc
  have hR : RowsAt rowsU (argMem rowsU [r]) := argMem_tab rowsU_nodup rowsU_low64
  have s2 := s1 (argMem rowsU [r]) fun hc => hA 0 r rfl hc
  obtain ⟨v, σ', hS, rfl⟩ := places_law (G := 64 + [r].length) (σ0 := argMem rowsU [r]) (fr := fr) (to_ := to_) (wd := wd) (tab := tab) (wrap := wrap) (Nat.le_refl _) rfl (by simp) (u8f_of hR) (fun σ' h => s_known _ (by simp) σ' (keepsR hR h)) s2
  have p2 := p1 (argMu rowsU [r]) (argMu_at (k := 0) rfl)
  refine arg_calls (rows := [r]) (args := #[u1, .int .i64 fr, .int .i64 to_, .int .i64 wd, .int .i64 tab, .bool wrap]) (cargs := #[v1, .int .i64 fr, .int .i64 to_, .int .i64 wd, .int .i64 tab, .bool wrap]) (rowsU_lie hT) rowsU_low64 (fun k r' hr i u hu => ?_) ⟨rfl, fun i x x' h1 h2 => ?_⟩ hS rfl
  · match k, hr with
    | 0, hr => cases hr; exact ⟨u, (p3 i u hu).1, .flat _ (p3 i u hu).2⟩
    | k + 1, hr => simp at hr
  · match i, h1, h2 with
    | 0, h1, h2 => cases h1; cases h2; exact p2
    | 1, h1, h2 => cases h1; cases h2; exact .flat _ rfl
    | 2, h1, h2 => cases h1; cases h2; exact .flat _ rfl
    | 3, h1, h2 => cases h1; cases h2; exact .flat _ rfl
    | 4, h1, h2 => cases h1; cases h2; exact .flat _ rfl
    | 5, h1, h2 => cases h1; cases h2; exact .flat _ rfl
    | i + 6, h1, _ => simp at h1
end Go.Proofs.YtmmapljeeccdnaaDoor
