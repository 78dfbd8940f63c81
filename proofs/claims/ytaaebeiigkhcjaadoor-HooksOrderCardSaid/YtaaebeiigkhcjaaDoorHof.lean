/-
  Add, Functions, Depth as HooksOrder calls them: what stands goes on standing. Conditions: the heap lies there as HeapAt says.
-/
import Derived.Test.YtaaebeiigkhcjaaDoorHoe
import Derived.Test.YtaaebeiigkhcjaaDoorHkd
namespace Go.Proofs.YtaaebeiigkhcjaaDoor
set_option maxRecDepth 100000
section
variable {h : Nat} {m : HM} {σ0 : Mem} {i : Nat} {vw p : Wd} {ml : List Wd}
theorem fine_syms (hr : ∀ y ∈ ml, 0 ≤ y.1) : ∀ x ∈ ml.map symW, Fine x := fun x hx => by
  obtain ⟨y, hy, rfl⟩ := List.mem_map.1 hx
  have := hr y hy
  exact fun _ => ⟨by show 70 + y.1 ≠ 7; omega, by show 70 + y.1 ≠ 8; omega⟩
theorem good_syms {m : HM} : ∀ y ∈ ml.map symW, Good m y := fun x hx => by
  obtain ⟨y, hy, rfl⟩ := List.mem_map.1 hx
  exact .atom (.inr rfl)
theorem sym_ok {f : Int} (hf : 0 ≤ f) : (((1, 70 + f) : Wd).1 == 1 && ((1, 70 + f) : Wd).2 == 0) = false := by
  rw [Bool.and_eq_false_iff]
  right
  rw [beq_eq_false_iff_ne]
  show 70 + f ≠ 0
  omega
theorem HInv.elems (HI : HInv i m vw p ml) : Elems G66 h m vw (ml.map symW) := by
  obtain ⟨c, hx, hp⟩ := HI.ws
  exact elems_list hx hp (by rw [HI.lim]; decide) (by rw [List.length_map]; have := HI.len; omega) (fine_syms fun y hy => (HI.range y hy).1)
theorem add_step {f d : Int} (HI : HInv i m vw p ml) (hi : i ≤ 30) (hf : 0 ≤ f ∧ f < 12) (hd : -3 ≤ d ∧ d ≤ 3) (hG : G66 ≤ σ0.next) (ha : σ0.abs = heapAbs h m) (hN : GNull σ0.get) :
    WC G66 Tryd.prog 9 #[pp h, wdV vw, wdV p, wdV (1, 70 + f), .int .i64 d] σ0 fun r σ' => ∃ m' vw' p', r = .tuple #[wdV vw', wdV p', .int .i64 0] ∧ HInv (i + 1) m' vw' p' (addM ml f d) ∧ Lies G66 (heapAbs h m') σ0.get σ' [] := by
  obtain ⟨c, es, fs, h1, h2, h3, h4, h5, h6⟩ := HI.dep
  have hlo : 0 < m.limit := by rw [HI.lim]; decide
  have hlen := HI.len
  have h12 : (ml.map symW).length ≤ 12 := by rw [List.length_map]; exact hlen
  have gfs1 : ∀ y ∈ fs, y.1.1 = 1 := fun y hy => by obtain ⟨z, _, e⟩ := h5 y hy; rw [e]; rfl
  have gfs : ∀ y ∈ fs, Good m y.1 := fun y hy => .atom (.inr (gfs1 y hy))
  have hr : m.many + (ml.map symW).length + 3 ≤ m.limit := by rw [HI.lim]; have := HI.many; omega
  have hlim : m.limit ≤ 65536 := by rw [HI.lim]; decide
  have gf : Good m (1, 70 + f) := .atom (.inr rfl)
  have hes : es.length ≤ 65536 := by omega
  cases hm : hasM ml f with
  | true =>
    refine (add_found (fs := []) hG ha hlo hN HI.elems h1 h2 hes h12 gf (sym_ok hf.1) good_syms (by omega) (by omega) (hasW_syms.trans hm)).mono fun r σ' ⟨e, K⟩ => ⟨m, vw, p, e, ?_, K⟩
    have : addM ml f d = ml := by unfold addM; rw [hm]; rfl
    rw [this]
    exact HI.succ
  | false =>
    have hF : hasW m (1, 70 + f) (ml.map symW) = false := hasW_syms.trans hm
    have hrk := ranks_eq (m := m) gfs1 h6
    rcases Int.lt_trichotomy d 0 with h0 | rfl | h0
    · refine (add_neg hG ha hlo hN HI.elems h1 h2 hes h12 gf (sym_ok hf.1) good_syms hF gfs h3 HI.free hr hlim (by omega) h0).mono fun r σ' ⟨ys, hys, e, K⟩ => ?_
      rw [hrk] at hys
      obtain rfl := stab_model hm HI.sorted (by rw [if_neg (show ¬ 0 < d by omega)]; rfl) hys
      rw [fst_rkM] at e K
      exact ⟨_, _, _, e, HI.addD hi hm hf hd rfl, K⟩
    · refine (add_zero hG ha hlo hN HI.elems h1 h2 hes h12 gf (sym_ok hf.1) good_syms hF gfs h3 HI.free hr hlim).mono fun r σ' ⟨ys, hys, e, K⟩ => ?_
      rw [hrk] at hys
      obtain rfl := stab_model hm HI.sorted (by rw [if_neg (show ¬ (0 : Int) < 0 by omega)]; rfl) hys
      rw [fst_rkM] at e K
      exact ⟨_, _, _, e, HI.add0 hi hm hf, K⟩
    · refine (add_pos hG ha hlo hN HI.elems h1 h2 hes h12 gf (sym_ok hf.1) good_syms hF gfs h3 HI.free hr hlim h0 (by omega)).mono fun r σ' ⟨ys, hys, e, K⟩ => ?_
      rw [hrk] at hys
      obtain rfl := stab_model hm HI.sorted (by rw [if_pos h0]; rfl) hys
      rw [fst_rkM] at e K
      exact ⟨_, _, _, e, HI.addD hi hm hf hd rfl, K⟩
theorem funs_step (HI : HInv i m vw p ml) (hG : G66 ≤ σ0.next) (ha : σ0.abs = heapAbs h m) (hN : GNull σ0.get) (hTee : GTee σ0.get) :
    WC G66 Tryd.prog 11 #[pp h, wdV vw, wdV (1, 0)] σ0 fun v σ' => ∃ sl, v = .tuple #[sl, .int .i64 0] ∧ Lies G66 (heapAbs h m) σ0.get σ' [.sl 28 2 sl ml.length (wdC (ml.map symW))] := by
  have hlo : 0 < m.limit := by rw [HI.lim]; decide
  have hlen := HI.len
  have E2 : Elems G66 h m (1, 0) [] := elems_list (c := fun _ => (1, 0)) rfl ⟨rfl, fun j hj => absurd hj (Nat.not_lt_zero _)⟩ hlo (by decide) (fun x hx => by cases hx)
  refine (functions_wc hG ha hlo HI.elems E2 (by rw [List.length_map]; exact hlen) (by decide) hN hTee).mono fun r σ' ⟨sl, e, K⟩ => ⟨sl, e, ?_⟩
  rw [flat_syms fun y hy => (HI.range y hy).1] at K
  rwa [List.length_map] at K
theorem depth_step {k : Nat} (HI : HInv i m vw p ml) (hi : i ≤ 31) (hk : k < ml.length) (hG : G66 ≤ σ0.next) (ha : σ0.abs = heapAbs h m) :
    WC G66 Tryd.prog 12 #[pp h, wdV p, wdV (1, 70 + (ml.getD k (0, 0)).1)] σ0 fun r σ' => r = .tuple #[.int .i64 (ml.getD k (0, 0)).2, .int .i64 0] ∧ Lies G66 (heapAbs h m) σ0.get σ' [] := by
  obtain ⟨c, es, fs, h1, h2, h3, h4, h5, h6⟩ := HI.dep
  have hlo : 0 < m.limit := by rw [HI.lim]; decide
  have gfs1 : ∀ y ∈ fs, y.1.1 = 1 := fun y hy => by obtain ⟨z, _, e⟩ := h5 y hy; rw [e]; rfl
  have := Depth_wc (x := (1, 70 + (ml.getD k (0, 0)).1)) hG ha hlo (by omega) h1 h2 (.atom (.inr rfl)) (fun y hy => .atom (.inr (gfs1 y hy))) h3
  rw [depOf_atom rfl gfs1, show depA (1, 70 + (ml.getD k (0, 0)).1) fs = (ml.getD k (0, 0)).2 from h6 _ (getW_mem hk)] at this
  exact this
/-- A symbol of the model's list. -/
theorem sym_at {k : Nat} (hk : k < ml.length) : ((wdC (ml.map symW)).drop (((k : Nat) : Int).toNat * 2)).take 2 = [.int .i64 1, .int .i64 (70 + (ml.getD k (0, 0)).1)] := by
  rw [wdC_at (by rw [List.length_map]; exact hk)]
  have : (ml.map symW).getD k (0, 0) = symW (ml.getD k (0, 0)) := by
    rw [List.getD_eq_getElem?_getD, List.getD_eq_getElem?_getD, List.getElem?_map, List.getElem?_eq_getElem hk]
    rfl
  rw [this]
  rfl
end
end Go.Proofs.YtaaebeiigkhcjaaDoor
