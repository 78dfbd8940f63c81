/-
  Code whose steps are open, gone through in all orders, or by the rule for a loop that looks for one entry; steps that are known by it. Over any program. Conditions: none.
-/
import Derived.Test.YtpjpefcpbkmilaaDoorSnp
namespace Go.Proofs.YtpjpefcpbkmilaaDoor
variable {P : Program} {G : Nat} {nt : Nat} {rd : Option Nat} {N : Nat}
noncomputable def loopN (body : T Value → List DItem → EM → Option (List Leaf)) : Nat → T Value → List DItem → EM → Option (List Leaf)
  | 0, _, _, _ => none
  | n + 1, tr, dm, e => (match body tr dm e with
    | some L => collectL (fun l => match l with
      | (.normal, tr1, dm1, e1) => loopN body n tr1 dm1 e1
      | l => some [l]) L
    | none => none)
noncomputable def oneN (N : Nat) : Out → Option (List Leaf)
  | some l => cond (Nat.ble l.2.2.2.next N) (some [l]) none
  | none => none
noncomputable def regionN (D : Doer) (G : Nat) (P : Program) (nt N : Nat) (ops : Array Oper) (draw : Bool) (tr : T Value) (dm : List DItem) (e : EM) : Option (List Leaf) :=
  cond draw none (match regN D G P nt N ops ops.toList tr e with
    | some R => some (R.map fun x => (.normal, x.1, dm, x.2))
    | none => none)
def orN (y : Option (List Leaf)) : Option (List Leaf) → Option (List Leaf)
  | some L => some L
  | none => y
noncomputable def evN (D : Doer) (G : Nat) (P : Program) (code : Option Nat → Nat → Code → T Value → List DItem → EM → Out) (N i0 : Nat) : Nat → Option Nat → Nat → Code → T Value → List DItem → EM → Option (List Leaf)
  | 0, _, _, _, _, _, _ => none
  | k + 1, rd, nt, c, tr, dm, e => (match c with
    | .seq x y => (match evN D G P code N i0 k rd nt x tr dm e with
      | some L => collectL (fun l => match l with
        | (.normal, tr1, dm1, e1) => evN D G P code N i0 k rd nt y tr1 dm1 e1
        | l => some [l]) L
      | none => none)
    | .cond c x y => (match oper2 (tmG tr) c with
      | .bool b => cond b (evN D G P code N i0 k rd nt x tr dm e) (evN D G P code N i0 k rd nt y tr dm e)
      | _ => none)
    | .block id c => (match evN D G P code N i0 k rd nt c tr dm e with
      | some L => some (L.map fun l => (outOf id l.1, l.2))
      | none => none)
    | .scope c => (match evN D G P code N i0 k rd nt c tr dm e with
      | some L => cond (L.all fun l => notGoto l.1) (some L) none
      | none => none)
    | .loop c => orN (loopN (evN D G P code N i0 k rd nt c) 1000 tr dm e) (mapLoop G P nt i0 c tr dm e)
    | .region id ops draw => orN (regionN D G P nt N ops draw tr dm e) (oneN N (code rd nt (.region id ops draw) tr dm e))
    | c => oneN N (code rd nt c tr dm e))
theorem oneN_right {code : Option Nat → Nat → Code → T Value → List DItem → EM → Out} (h : CodeRight G P code) {rd : Option Nat} {c : Code} {tr : T Value} {dm : List DItem} {e : EM} {L : List Leaf} (hc : oneN N (code rd nt c tr dm e) = some L) : NCode G P rd nt c (tmG tr) dm e.mem N L := by
  unfold oneN at hc
  split at hc
  · rename_i l hl
    obtain ⟨ex, tr', dm', e'⟩ := l
    cases hb : Nat.ble e'.next N with
    | false => rw [hb] at hc; cases hc
    | true => rw [hb] at hc; cases hc; exact NCode.of (h _ _ _ _ _ _ _ _ _ _ hl) (by simpa using hb)
  · cases hc
theorem loopN_right {body : T Value → List DItem → EM → Option (List Leaf)} {rd : Option Nat} {c : Code} (h : ∀ tr dm e L, body tr dm e = some L → NCode G P rd nt c (tmG tr) dm e.mem N L) : ∀ (n : Nat) tr dm e L, loopN body n tr dm e = some L → NRounds G P rd nt n c (tmG tr) dm e.mem N L := by
  intro n
  induction n with
  | zero => intro tr dm e L hl; simp only [loopN] at hl; cases hl
  | succ n ih =>
    intro tr dm e L hl
    simp only [loopN] at hl
    split at hl
    · rename_i M hM
      refine NRounds.more (h _ _ _ _ hM) fun l hlm => ?_
      obtain ⟨K, hK, hsub⟩ := collectL_mem hl l hlm
      split at hK
      · rename_i tr1 dm1 e1
        exact .inl ⟨rfl, K, ih _ _ _ _ hK, hsub⟩
      · rename_i hne
        cases hK
        refine .inr ⟨fun he => ?_, hsub _ (List.mem_singleton.2 rfl)⟩
        obtain ⟨ex, tr1, dm1, e1⟩ := l
        simp only at he
        subst he
        exact hne _ _ _ rfl
    · cases hl
theorem evN_right {i0 : Nat} {D : Doer} (hD : D.Right G P) {code : Option Nat → Nat → Code → T Value → List DItem → EM → Out} (h : CodeRight G P code) : ∀ (k : Nat) (rd : Option Nat) (nt : Nat) (c : Code) (tr : T Value) (dm : List DItem) (e : EM) (L : List Leaf), evN D G P code N i0 k rd nt c tr dm e = some L → NCode G P rd nt c (tmG tr) dm e.mem N L := by
  intro k
  induction k with
  | zero => intro rd nt c tr dm e L hl; simp only [evN] at hl; cases hl
  | succ k ih =>
    intro rd nt c tr dm e L hl
    simp only [evN] at hl
    split at hl
    · rename_i x y
      split at hl
      · rename_i M hM
        refine NCode.seq (ih _ _ _ _ _ _ _ hM) fun l hlm => ?_
        obtain ⟨K, hK, hsub⟩ := collectL_mem hl l hlm
        split at hK
        · rename_i tr1 dm1 e1
          exact .inl ⟨rfl, K, ih _ _ _ _ _ _ _ hK, hsub⟩
        · rename_i hne
          cases hK
          refine .inr ⟨fun he => ?_, hsub _ (List.mem_singleton.2 rfl)⟩
          obtain ⟨ex, tr1, dm1, e1⟩ := l
          simp only at he
          subst he
          exact hne _ _ _ rfl
      · cases hl
    · rename_i c x y
      split at hl
      · rename_i b hb
        refine NCode.cond hb ?_
        cases b with
        | true => exact ih _ _ _ _ _ _ _ hl
        | false => exact ih _ _ _ _ _ _ _ hl
      · cases hl
    · split at hl
      · rename_i M hM
        cases hl
        exact NCode.block (ih _ _ _ _ _ _ _ hM)
      · cases hl
    · split at hl
      · rename_i M hM
        cases hg : M.all fun l => notGoto l.1 with
        | false => rw [hg] at hl; cases hl
        | true =>
          rw [hg] at hl
          cases hl
          exact NCode.scope (ih _ _ _ _ _ _ _ hM) fun l hm => List.all_eq_true.1 hg l hm
      · cases hl
    · unfold orN at hl
      split at hl
      · rename_i M hM
        cases hl
        exact mapLoop_right hM
      · exact (loopN_right (fun tr dm e L hb => ih _ _ _ _ _ _ _ hb) 1000 _ _ _ _ hl).loop
    · rename_i id ops draw
      unfold orN at hl
      split at hl
      · rename_i M hM
        cases hl
        exact oneN_right h hM
      · unfold regionN at hl
        cases draw with
        | true => cases hl
        | false =>
          simp only [cond_false] at hl
          split at hl
          · rename_i R hR
            cases hl
            intro μ w a rc hs hG hf ht hd _ Q hQ
            refine wpIn_region ?_
            have h3 := regN_text (rc := rc) hD (ops := ops) ops.toList 0 tr e R rfl hR μ w a hs hG hf ht Q fun x hx a' w' μ' he hst htr => hQ _ (List.mem_map.2 ⟨x, hx, rfl⟩) a' w' μ' (by rw [he]; exact hd.ext hst.extE) hst htr
            rw [List.range_eq_range']
            simpa using h3
          · cases hl
    · exact oneN_right h hl
/-- A step whose run goes through all orders. -/
noncomputable def Tr.runN (t : Tr) (G : Nat) (P : Program) (K : Kn) (n i0 : Nat) : Bool := match fT P t.f with
  | some fn => (match fn.body with
    | some c => (match evN (evP G P K n).doer G P (ev G P K n) t.n1 i0 1000 none (t.args.toArray.size + (fn.ntmps - t.args.toArray.size)) c (argTree t.args.toArray.toList) [] t.pre with
      | some L => allR (fun l => match l with
        | (ex, tr', [], e') => cond (exOk ex) (cond (Nat.beq e'.next t.n1) (match resL P (tmG tr') e'.mem fn.results.toList with
          | some vs => cond (eqV 3 (tupV vs) t.v) (allR (fun x => match x.2 with
            | none => true
            | some y => (match e'.mem.get x.1 with | some z => eqB z y | none => false)) t.l1) false
          | none => false) false) false
        | _ => false) L
      | none => false)
    | none => false)
  | none => false
theorem Tr.right_ofN {t : Tr} {K : Kn} {G n i0 : Nat} (hK : K.Right G P) (hw : t.wf = true) (h : t.runN G P K n i0 = true) : t.Right G P := by
  refine ⟨hw, ?_⟩
  have hn01 : t.n0 ≤ t.n1 := by
    unfold Tr.wf at hw
    simp only [Bool.and_eq_true] at hw
    simpa using hw.1.1
  unfold Tr.runN at h
  rw [fT_eq] at h
  split at h
  · rename_i fn hf
    split at h
    · rename_i c hb
      split at h
      · rename_i L hL
        have hc := evN_right (evP_right G P hK n).2 (ev_right G P hK n) _ _ _ _ _ _ _ _ hL
        rw [allR_eq] at h
        have e0 : (fun i => t.args.toArray.toList.getD i undef) = fun i => t.args.toArray.getD i undef := by
          funext i
          simp [List.getD_eq_getElem?_getD]
        rw [argTree_get, e0] at hc
        refine ⟨hn01, fun μ w cargs hsim hG hfr ha => ?_⟩
        refine (callsIn_wide (n := 0)).1 (callsIn_of_wp_marks (F := FW none) hf hb trivial (hc μ w { tmps := cargs ++ Array.replicate (fn.ntmps - cargs.size) undef, defers := [] } none hsim hG hfr (args_rel ha) trivial trivial _ fun l hl a' w' μ' hd' hst htr => ?_))
        have hl0 := List.all_eq_true.1 h l hl
        obtain ⟨ex, tr', dm', e'⟩ := l
        cases dm' with
        | cons d ds => simp at hl0
        | nil =>
          simp only at hl0 hd' hst htr
          cases hx : exOk ex with
          | false => rw [hx] at hl0; cases hl0
          | true =>
            rw [hx] at hl0
            simp only [cond_true] at hl0
            cases h2 : Nat.beq e'.next t.n1 with
            | false => rw [h2] at hl0; cases hl0
            | true =>
              rw [h2] at hl0
              simp only [cond_true] at hl0
              split at hl0
              · rename_i vs hres
                cases h3 : eqV 3 (tupV vs) t.v with
                | false => rw [h3] at hl0; cases hl0
                | true =>
                  rw [h3] at hl0
                  simp only [cond_true] at hl0
                  rw [allR_eq] at hl0
                  have hv := eqV_eq 3 _ _ h3
                  have hsub : Sub t.post.mem e'.mem := by
                    refine ⟨(Nat.eq_of_beq_eq_true h2).symm, fun b x hx => ?_⟩
                    have hx' : (litE t.l1 t.n1).mem.get b = some x := hx
                    rw [litE_get] at hx'
                    split at hx'
                    · split at hx'
                      · rename_i o ho
                        subst hx'
                        have := List.all_eq_true.1 hl0 _ (findB_some ho)
                        simp only at this
                        split at this
                        · rename_i z hz; rw [hz, eqB_eq this]
                        · cases this
                      · cases hx'
                    · cases hx'
                  obtain ⟨vc, hrun, hvr⟩ := (sres (fn := fn) (nt := t.args.toArray.size + (fn.ntmps - t.args.toArray.size)) hres) μ' w' a'.tmps hst.sim htr
                  have hdef : a'.defers = [] := by
                    cases hdd : a'.defers with
                    | nil => rfl
                    | cons d ds => rw [hdd] at hd'; exact hd'.elim
                  have hout : LeavesInM (FW none) 0 P fn a'.tmps (fun e w' => ∃ vc μ', e = .returned vc ∧ Stp G t.pre.mem μ w t.post.mem μ' w' ∧ VRel μ' t.v vc) [] .returning w' := ⟨vc, hrun, vc, μ', rfl, hst.forget hsub, by rw [← hv]; exact hvr⟩
                  rw [← hdef] at hout
                  cases ex <;> first | exact hout | (simp [exOk] at hx; done)
              · cases hl0
      · cases h
    · cases h
  · cases h
end Go.Proofs.YtpjpefcpbkmilaaDoor
