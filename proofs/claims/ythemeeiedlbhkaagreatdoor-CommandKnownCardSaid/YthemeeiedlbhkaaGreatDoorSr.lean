/-
  A function without arguments that the second memory carries out: its contract. Over any program. Conditions: the rows named lie in the world.
-/
import Derived.Test.YthemeeiedlbhkaaGreatDoorSp
namespace Go.Proofs.YthemeeiedlbhkaaGreatDoor
open Go.RowKit
variable {P : Program}

/-- The rows of package-level variables, one behind the other. -/
noncomputable def rowsAt : List (Nat × List Value) → T EBlk
  | [] => .nil
  | (g, cs) :: l => (rowsAt l).put (some (.b (.row ⟨cs, 0, true⟩))) g
noncomputable def startE (G : Nat) (l : List (Nat × List Value)) : EM := ⟨rowsAt l, G⟩
theorem rowsAt_get : ∀ (l : List (Nat × List Value)) (b : Nat) (x : EBlk), (rowsAt l).get b = some x → ∃ cs, (b, cs) ∈ l ∧ x = .b (.row ⟨cs, 0, true⟩)
  | [], b, x, h => by cases h
  | (g, cs) :: l, b, x, h => by
    simp only [rowsAt] at h
    rw [T.get_put] at h
    split at h
    · rename_i hb; cases h; exact ⟨cs, by simp [hb], rfl⟩
    · obtain ⟨cs', h1, h2⟩ := rowsAt_get l b x h
      exact ⟨cs', by simp [h1], h2⟩
/-- What the rows must be, and that they lie there. -/
def RowsLie (w : World) (l : List (Nat × List Value)) : Prop := ∀ g cs, (g, cs) ∈ l → (∀ x ∈ cs, flatV x = true) ∧ cs ≠ [] ∧ ∀ (i : Nat) v, cs[i]? = some v → w.cell? ⟨g, i, none⟩ = some v
theorem RowsLie.later {w w' : World} {l : List (Nat × List Value)} (h : RowsLie w l) (hb : Below w.heap.size w w') : RowsLie w' l := fun g cs hm => by
  obtain ⟨h1, h2, h3⟩ := h g cs hm
  exact ⟨h1, h2, fun i v hv => by rw [hb.cell (p := ⟨g, i, none⟩) (World.block_lt_of_cell? _ _ (h3 i v hv))]; exact h3 i v hv⟩
noncomputable def startMu (G : Nat) (l : List (Nat × List Value)) : Mu := fun b => if b < G then some ⟨b, 0, (match (rowsAt l).get b with | some (.b (.row r)) => r.cs.length | _ => 0), 0, 0⟩ else none
theorem start_sim {G : Nat} {l : List (Nat × List Value)} {w : World} (hl : RowsLie w l) (_hG : ∀ g cs, (g, cs) ∈ l → g < G) : Sim G (startMu G l) (startE G l).mem w := by
  have get : ∀ b x, (startE G l).mem.get b = some x → b < G ∧ ∃ cs, (b, cs) ∈ l ∧ x = .row ⟨cs, 0, true⟩ ∧ (rowsAt l).get b = some (.b (.row ⟨cs, 0, true⟩)) := fun b x h => by
    have hlt : b < G := Mem.lt h
    unfold Mem.get EM.mem startE at h
    simp only [hlt, if_true] at h
    split at h
    · rename_i y hy
      cases h
      obtain ⟨cs, h1, h2⟩ := rowsAt_get l b y hy
      exact ⟨hlt, cs, h1, by rw [h2]; rfl, by rw [hy, h2]⟩
    · cases h
  refine ⟨fun g hg => ⟨_, by unfold startMu; rw [if_pos hg], fun _ => ⟨rfl, rfl⟩⟩, fun b x bi hx hm => ?_, fun b b' x x' bi bi' hx hx' hm hm' e => ?_, fun b x bi hGb hx _ => ?_⟩
  · obtain ⟨hlt, cs, hmem, rfl, hrow⟩ := get b x hx
    unfold startMu at hm
    rw [if_pos hlt, hrow] at hm
    cases hm
    obtain ⟨h1, h2, h3⟩ := hl b cs hmem
    have h0 : ∃ v, cs[0]? = some v := by cases cs with | nil => exact absurd rfl h2 | cons v _ => exact ⟨v, rfl⟩
    obtain ⟨v0, hv0⟩ := h0
    have hc := h3 0 v0 hv0
    unfold World.cell? at hc
    split at hc
    · rename_i cc t fz hh
      refine ⟨rfl, cc, fz, t, hh, fun h => absurd h (by simp), fun i v hv => ⟨v, ?_, .flat v (h1 v (List.mem_of_getElem? hv))⟩⟩
      have := h3 i v hv
      unfold World.cell? at this
      rw [hh] at this
      simpa using this
    · cases hc
  · obtain ⟨hlt, _⟩ := get b x hx
    obtain ⟨hlt', _⟩ := get b' x' hx'
    unfold startMu at hm hm'
    rw [if_pos hlt] at hm
    rw [if_pos hlt'] at hm'
    cases hm
    cases hm'
    exact fun _ => e
  · obtain ⟨hlt, _⟩ := get b x hx
    omega
/-- **A closed call.** -/
theorem closed_run {G n f : Nat} {K : Kn} (hK : K.Right G P) {l : List (Nat × List Value)} {args : List Value} {v : Value} (h : (match doCall G P (ev G P K n) f args.toArray (startE G l) with | some (u, _) => eqV 3 u v | _ => false) = true) (ha : args.all (closedV 3) = true) (hv : closedV 3 v = true) {w : World} (hl : RowsLie w l) (hG : ∀ g cs, (g, cs) ∈ l → g < G) :
    Calls P f args.toArray w fun e w' => e = .returned v ∧ Below w.heap.size w w' := by
  split at h
  · rename_i u e' hc
    have hu := eqV_eq 3 _ _ h
    subst hu
    have hs := doCall_right (ev_right G P hK n) hc
    have hsim := start_sim hl hG
    refine (hs.2 (startMu G l) w args.toArray hsim (Nat.le_refl _) (fun b h1 _ => ?_) ⟨rfl, fun i x x' h1 h2 => ?_⟩).mono ?_
    · have h1 : G ≤ b := h1
      unfold startMu
      rw [if_neg (by omega)]
    · rw [h1] at h2
      cases h2
      exact closedV_rel _ 3 x (List.all_eq_true.1 ha x (List.mem_of_getElem? (by simpa using h1)))
    · rintro e w' ⟨vc, μ', rfl, hst, hr⟩
      refine ⟨by rw [closedV_eq 3 _ _ hv hr], hst.os, hst.tape, hst.output, hst.size, fun B hB => hst.keep B hB fun b x bi hGb hx _ => ?_⟩
      have : b < G := Mem.lt hx
      omega
  · cases h
theorem closed_calls {G n f : Nat} {K : Kn} (hK : K.Right G P) {l : List (Nat × List Value)} (h : (match doCall G P (ev G P K n) f #[] (startE G l) with | some (.bool b, _) => b | _ => false) = true) {w : World} (hl : RowsLie w l) (hG : ∀ g cs, (g, cs) ∈ l → g < G) :
    Calls P f #[] w fun e w' => e = .returned (.bool true) ∧ Below w.heap.size w w' := by
  refine closed_run (args := []) (v := .bool true) hK (n := n) ?_ rfl rfl hl hG
  split at h
  · rename_i b e' hc
    subst h
    have hc' : doCall G P (ev G P K n) f [].toArray (startE G l) = some (.bool true, e') := hc
    rw [hc']
    rfl
  · cases h
/-- Nothing is known. -/
def noK (l : List (Nat × List Value)) : Kn := { calls := [], rows := l, same := [] }
theorem noK_right {G : Nat} {l : List (Nat × List Value)} : (noK l).Right G P := ⟨fun f args v h => (by cases h), fun f h => (by cases h), fun t h => by cases h⟩
theorem rows_lie {G : Nat} {μ : Mu} {σ : Mem} {w : World} {l : List (Nat × List Value)} (hs : Sim G μ σ w) (hG : ∀ g cs, (g, cs) ∈ l → g < G) (h64 : ∀ g cs, (g, cs) ∈ l → g < 64) (hf : ∀ g cs, (g, cs) ∈ l → (∀ x ∈ cs, flatV x = true) ∧ cs ≠ []) (h : RowsAt l σ) : RowsLie w l := fun g cs hm => by
  obtain ⟨h1, h2⟩ := hf g cs hm
  refine ⟨h1, h2, fun i v hv => ?_⟩
  obtain ⟨t, gg, ht⟩ := h g cs hm
  obtain ⟨bi, hb, e12⟩ := hs.glob g (hG g cs hm)
  obtain ⟨e1, e2⟩ := e12 (h64 g cs hm)
  obtain ⟨cc, fz, t', hc, _, hv'⟩ := (hs.blk g _ bi ht hb).lie
  obtain ⟨v', g1, g2⟩ := hv' i v hv
  have := flatV_eq (h1 v (List.mem_of_getElem? hv)) g2
  subst this
  rw [e1] at hc
  rw [e2, Nat.zero_add] at g1
  unfold World.cell?
  simp only [hc]
  exact g1
/-- A closed call, wherever the rows lie. -/
theorem closed_scall {G G' n f : Nat} {K : Kn} (hK : K.Right G P) {args : List Value} {v : Value} (h : (match doCall G P (ev G P K n) f args.toArray (startE G K.rows) with | some (u, _) => eqV 3 u v | _ => false) = true) (ha : args.all (closedV 3) = true) (hv : closedV 3 v = true) (hG : ∀ g cs, (g, cs) ∈ K.rows → g < G) (hG' : ∀ g cs, (g, cs) ∈ K.rows → g < G') (hf : ∀ g cs, (g, cs) ∈ K.rows → (∀ x ∈ cs, flatV x = true) ∧ cs ≠ []) (σ : Mem) (hr : RowsAt K.rows σ) (h64 : G ≤ 64 := by decide) : SCall G' P f args.toArray σ v σ := by
  refine ⟨Nat.le_refl _, fun μ w cargs hs hGn _ har => ?_⟩
  have hz : cargs = args.toArray := by
    apply Array.ext'
    apply List.ext_getElem?
    intro i
    rcases Nat.lt_or_ge i args.length with hi | hi
    · have hi' : i < cargs.size := by rw [← har.1]; simpa using hi
      have := har.2 i args[i] cargs[i] (by simp [hi]) (by simp [hi'])
      have e := closedV_eq 3 _ _ (List.all_eq_true.1 ha _ (List.getElem_mem hi)) this
      simp [hi, hi', e]
    · have hi' : cargs.size ≤ i := by rw [← har.1]; simpa using hi
      rw [List.getElem?_eq_none (by simpa using hi'), List.getElem?_eq_none (by simpa using hi)]
  subst hz
  refine (closed_run hK h ha hv (rows_lie hs hG' (fun g cs hm => Nat.lt_of_lt_of_le (hG g cs hm) h64) hf hr) hG).mono ?_
  rintro e w' ⟨rfl, hb⟩
  refine ⟨v, μ, rfl, ⟨Nat.le_refl _, fun b h1 h2 => absurd h1 (by omega), fun _ _ => rfl, ?_, hb.size, hb.os, hb.tape, hb.output, fun B hB _ => hb.block B hB, fun b x bi hb' hx _ => absurd (Mem.lt hx) (by omega), fun _ x _ h => ⟨x, h⟩, hGn⟩, closedV_rel _ 3 v hv⟩
  exact ⟨hs.glob, fun b x bi hx hm => (hs.blk b x bi hx hm).keep (hb.block _ (hs.blk b x bi hx hm).lt) (Ext.refl _), hs.inj, hs.rw_⟩
/-- A closed call is known from then on. -/
theorem known_cons {G n f : Nat} {K : Kn} (hK : K.Right G P) {args : List Value} {v : Value} (h : (match doCall G P (ev G P K n) f args.toArray (startE G K.rows) with | some (u, _) => eqV 3 u v | _ => false) = true) (ha : args.all (closedV 3) = true) (hv : closedV 3 v = true) (hG : ∀ g cs, (g, cs) ∈ K.rows → g < G) (hf : ∀ g cs, (g, cs) ∈ K.rows → (∀ x ∈ cs, flatV x = true) ∧ cs ≠ []) (h64 : G ≤ 64 := by decide) : Kn.Right ⟨(f, args, v) :: K.calls, K.rows, K.same, K.trans⟩ G P := by
  refine ⟨fun f' args' v' hm σ hr => ?_, hK.2⟩
  rcases List.mem_cons.1 hm with h1 | h1
  · cases h1
    exact closed_scall hK h ha hv hG hG hf σ hr h64
  · exact hK.1 f' args' v' h1 σ hr
/-- Functions that hand their argument back are known. -/
theorem known_same {G f : Nat} {K : Kn} (hK : K.Right G P) (h : SameFn P f) : Kn.Right ⟨K.calls, K.rows, f :: K.same, K.trans⟩ G P := by
  refine ⟨hK.1, fun f' hf' => ?_, hK.2.2⟩
  have e : hasF f' (f :: K.same) = cond (Nat.beq f' f) true (hasF f' K.same) := rfl
  rw [e] at hf'
  cases hb : Nat.beq f' f with
  | false => rw [hb] at hf'; exact hK.2.1 f' hf'
  | true => rw [Nat.eq_of_beq_eq_true hb]; exact h
/-- A step is right if its run says so. -/
noncomputable def Tr.run (t : Tr) (G : Nat) (P : Program) (K : Kn) (n : Nat) : Bool := match doCall0 (evP G P K n).doer G P (ev G P K n) t.f t.args.toArray t.pre with
  | some (u, e') => cond (eqV 3 u t.v) (cond (Nat.beq e'.next t.n1) (allR (fun x => match x.2 with
    | none => true
    | some y => (match e'.mem.get x.1 with | some z => eqB z y | none => false)) t.l1) false) false
  | none => false
theorem Tr.right_of {t : Tr} {K : Kn} {G n : Nat} (hK : K.Right G P) (hw : t.wf = true) (h : t.run G P K n = true) : t.Right G P := by
  refine ⟨hw, ?_⟩
  unfold Tr.run at h
  split at h
  · rename_i u e' hc
    cases h1 : eqV 3 u t.v with
    | false => rw [h1] at h; cases h
    | true =>
      rw [h1] at h
      simp only [cond_true] at h
      cases h2 : Nat.beq e'.next t.n1 with
      | false => rw [h2] at h; cases h
      | true =>
        rw [h2] at h
        simp only [cond_true] at h
        rw [allR_eq] at h
        have hv := eqV_eq 3 _ _ h1
        subst hv
        refine (doCall0_right (evP_right G P hK n).2 (ev_right G P hK n) hc).forget ⟨(Nat.eq_of_beq_eq_true h2).symm, fun b x hx => ?_⟩
        have hx' : (litE t.l1 t.n1).mem.get b = some x := hx
        rw [litE_get] at hx'
        split at hx'
        · split at hx'
          · rename_i o ho
            subst hx'
            have := List.all_eq_true.1 h _ (findB_some ho)
            simp only at this
            split at this
            · rename_i z hz; rw [hz, eqB_eq this]
            · cases this
          · cases hx'
        · cases hx'
  · cases h
theorem known_step {G : Nat} {K : Kn} {t : Tr} (hK : K.Right G P) (h : t.Right G P) : Kn.Right ⟨K.calls, K.rows, K.same, t :: K.trans⟩ G P :=
  ⟨hK.1, hK.2.1, fun t' ht => by
    rcases List.mem_cons.1 ht with h1 | h1
    · rw [h1]; exact h
    · exact hK.2.2 t' h1⟩
end Go.Proofs.YthemeeiedlbhkaaGreatDoor
