/-
  Add and Remove as the laws of hooks call them: the heap only grows; without a heap they fail. Conditions: the heap lies there as HeapAt says.
-/
import Derived.Test.YtaaebeiigkhcjaaGreatDoorR2
import Derived.Test.YtaaebeiigkhcjaaGreatDoorHkd
import Derived.Test.YtaaebeiigkhcjaaGreatDoorR0
namespace Go.Proofs.YtaaebeiigkhcjaaGreatDoor
set_option maxRecDepth 100000
section
variable {h : Nat} {m : HM} {σ0 : Mem}
theorem s_limitNil {G : Nat} (σ : Mem) : SCall G Tryz.prog 49 #[.pointer none] σ (.int .i64 0) σ :=
  closed_scall (G := 16) (n := 200) (K := noK []) (args := [.pointer none]) noK_right (by kernel_rfl) rfl rfl (fun _ _ h => by cases h) (fun _ _ h => by cases h) (fun _ _ h => by cases h) σ (fun _ _ h => by cases h)
theorem add_any {vw p f : Wd} {c : Nat → Wd} {ws es : List Wd} {d : Int} (hG : G66 ≤ σ0.next) (ha : σ0.abs = heapAbs h m) (hlo : 0 < m.limit) (hN : GNull σ0.get) (E : Elems G66 h m vw ws) (hx : c 0 = p) (hp : Chain m c es) (hn : es.length ≤ 65536) (hw12 : ws.length ≤ 12) (gf : Good m f) (gws : ∀ y ∈ ws, Good m y) (hes : ∀ y ∈ es, DepE m y) (hf : m.free = []) (hr : m.many + ws.length + 3 ≤ m.limit) (hlim : m.limit ≤ 65536) :
    WC G66 Tryz.prog 11 #[pp h, wdV vw, wdV p, wdV f, .int .i64 d] σ0 fun _ σ' => ∃ m', ExtH m m' (ws.length + 3) ∧ Lies G66 (heapAbs h m') σ0.get σ' [] := by
  by_cases l1 : d < -100
  · exact (add_low hG ha hlo hN l1).mono fun r σ' ⟨e, _, K⟩ => ⟨m, (ExtH.refl hf).le (by omega), K⟩
  by_cases l2 : 100 < d
  · exact (add_high hG ha hlo hN l2).mono fun r σ' ⟨e, _, K⟩ => ⟨m, (ExtH.refl hf).le (by omega), K⟩
  by_cases l3 : f = (1, 0)
  · subst l3
    exact (add_null (vw := vw) (p := p) (f := (1, 0)) hG ha hlo hN (by omega) (by omega)).mono fun r σ' ⟨e, _, K⟩ => ⟨m, (ExtH.refl hf).le (by omega), K⟩
  have hf0 : (f.1 == 1 && f.2 == 0) = false := by
    cases e : (f.1 == 1 && f.2 == 0) with
    | false => rfl
    | true =>
      rw [Bool.and_eq_true, beq_iff_eq, beq_iff_eq] at e
      exact absurd (Prod.ext e.1 e.2) l3
  have key : ∀ (ys : List Rk), ys.length = ws.length + 1 → ExtH m (built m (ys.map Prod.fst) (1, 0)).1 (ws.length + 1) := fun ys hy => (ext_built hf _ _).le (by rw [List.length_map]; omega)
  cases hF : hasW m f ws with
  | true => exact (add_found (fs := []) hG ha hlo hN E hx hp hn hw12 gf hf0 gws (by omega) (by omega) hF).mono fun r σ' ⟨_, K⟩ => ⟨m, (ExtH.refl hf).le (by omega), K⟩
  | false =>
    refine (addJ hG ha hlo hN E hx hp hn hw12 gf hf0 gws hF rfl hes hf hr hlim (by omega) (by omega)).mono fun r σ' ⟨ys, hys, h⟩ => ?_
    have k := key ys (by rw [hys.len]; split <;> simp)
    rcases h with ⟨_, _, K⟩ | ⟨_, _, K⟩
    · exact ⟨_, k.le (by omega), K⟩
    · exact ⟨_, ((k.trans (ext_push k.free _)).trans (ext_push (ext_push k.free _).free _)).le (by omega), K⟩
theorem ext_remP {w : Wd} {ws xs : List Wd} (hf : m.free = []) : ExtH m (remP m w ws xs).1 ws.length := by
  unfold remP
  split
  · exact (ext_built hf _ _).le (by omega)
  · exact (ExtH.refl hf).le (by omega)
theorem remove_any {vw p f : Wd} {c : Nat → Wd} {ws es : List Wd} (hG : G66 ≤ σ0.next) (ha : σ0.abs = heapAbs h m) (hlo : 0 < m.limit) (hN : GNull σ0.get) (E : Elems G66 h m vw ws) (hz : ws = [] → vw = (1, 0)) (hx : c 0 = p) (hp : Chain m c es) (hn : es.length ≤ 65536) (hnw : ws.length ≤ 65536) (gf : Good m f) (gws : ∀ y ∈ ws, Good m y) (hes : ∀ y ∈ es, DepE m y) (hf : m.free = []) (hr : m.many + ws.length + es.length ≤ m.limit) (hlim : m.limit ≤ 65536) :
    WC G66 Tryz.prog 13 #[pp h, wdV vw, wdV p, wdV f] σ0 fun _ σ' => ∃ m', ExtH m m' (ws.length + es.length) ∧ Lies G66 (heapAbs h m') σ0.get σ' [] :=
  (remove_wc hG ha hlo hN E hz hx hp hn hnw gf gws hes hf hr hlim).mono fun r σ' ⟨_, K⟩ => ⟨_, (ext_remP hf).trans (ext_remP (ext_remP hf).free), K⟩
end
end Go.Proofs.YtaaebeiigkhcjaaGreatDoor
