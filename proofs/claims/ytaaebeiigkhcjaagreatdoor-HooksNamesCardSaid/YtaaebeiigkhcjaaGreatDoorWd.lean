/-
  The walk's rules for functions that defer calls and do not panic. Over any program. Conditions: none.
-/
import Derived.Test.YtaaebeiigkhcjaaGreatDoorS4
namespace Go.Proofs.YtaaebeiigkhcjaaGreatDoor
variable {P : Program} {G : Nat} {nt : Nat} {rd : Option Nat} {ops : Array Oper} {l : List Oper} {ta : Nat → Value} {σ : Mem} {dm : List DItem} {rs : List (Rec × Mem)}

theorem RegR.pre {rc : Option Nat} {l : List Oper} {ta ta2 : Nat → Value} {e e2 : Mem} {rs : List (Rec × Mem)} (h : RegR G P nt ops l ta e rs ta2 e2) : ∀ (j : Nat) (tl : List Oper), ops.toList.drop j = l ++ tl →
    e.next ≤ e2.next ∧ ∀ μ w (a : Act), Sim G μ e w → G ≤ e.next → Fresh μ e e2 → TRel μ nt ta a.tmps → ∀ (Q : Exit → Act → World → Prop) (rest : List Nat), (∀ (a' : Act) w' μ', a'.defers = a.defers → Stp G e μ w e2 μ' w' → TRel μ' nt ta2 a'.tmps → wpOpsIn (FW rc) 0 P ops Q rest a' w') → wpOpsIn (FW rc) 0 P ops Q (List.range' j l.length ++ rest) a w := by
  have hjo_of : ∀ {j : Nat} {o : Oper} {l tl : List Oper}, ops.toList.drop j = (o :: l) ++ tl → ops[j]? = some o ∧ ops.toList.drop (j + 1) = l ++ tl := fun {j o l tl} hj => by
    refine ⟨?_, ?_⟩
    · have := congrArg List.head? hj
      rw [List.head?_drop] at this
      simpa using this
    · have := congrArg List.tail hj
      simpa using this
  induction h with
  | nil ta e => exact fun j tl hj => ⟨Nat.le_refl _, fun μ w a hs hG _ ht Q rest hQ => hQ a w μ rfl (Stp.refl hs hG) ht⟩
  | @skip o l ta e rs ta2 e2 hw hd h ih =>
    intro j tl hj
    obtain ⟨hjo, hj'⟩ := hjo_of hj
    obtain ⟨h1, h2⟩ := ih (j + 1) tl hj'
    refine ⟨h1, fun μ w a hs hG hf ht Q rest hQ => ?_⟩
    rw [List.length_cons, List.range'_succ, List.cons_append]
    simp only [wpOpsIn, hjo, wanted_ofR ht, hw, Bool.false_eq_true, if_false]
    refine ⟨fun _ _ => trivial, h2 μ w _ hs hG hf (putO_rel hd ht (VRel.undef μ)) Q rest fun a' w' μ' hd' hst htr => hQ a' w' μ' (hd'.trans ?_) hst htr⟩
    cases o.dst <;> rfl
  | @op o l ta e e1 r rs ta2 e2 hw hk hr hd h ih =>
    intro j tl hj
    obtain ⟨hjo, hj'⟩ := hjo_of hj
    obtain ⟨h1, h2⟩ := ih (j + 1) tl hj'
    have heop := hr.eop
    refine ⟨Nat.le_trans heop.1 h1, fun μ w a hs hG hf ht Q rest hQ => ?_⟩
    rw [List.length_cons, List.range'_succ, List.cons_append]
    simp only [wpOpsIn, hjo, wanted_ofR ht, hw, if_true]
    refine heop.2 μ w a hs hG (fun b g1 g2 => hf b g1 (Nat.lt_of_lt_of_le g2 h1)) (orel_ofR hs ht hk) _ _ (fun vc w1 μ1 s1 hv => ?_) rc
    refine h2 μ1 w1 _ s1.sim (Nat.le_trans hG s1.next) (fun b g1 g2 => ?_) (putO_rel hd (ht.ext s1.extE) hv) Q rest fun a' w' μ' hd' hst htr => hQ a' w' μ' (hd'.trans ?_) (s1.trans hst) htr
    · rw [s1.ext b (.inr g1)]; exact hf b (Nat.le_trans s1.next g1) g2
    · cases o.dst <;> rfl
theorem W.deferred {id : Nat} {o : Oper} {c : Call} {x : Operand} {f : FuncId} {fa ca as_ : Array Value} {Q : Exit → (Nat → Value) → List DItem → Mem → Prop} (l : List Oper) (hops : ops.toList = l ++ [o]) (ho : o.op = .defer c) (hc : c.callee = .value x) (hg : o.guard = none) (hdst : o.dst = none) (hk : opndOk G o = true)
    (h : RW G P nt ops l ta σ [] fun _ ta' σ' => oper2 ta' x = .func (.func f) fa ca ∧ fa ++ c.args.map (oper2 ta') = as_ ∧ Q .normal ta' (.call f as_ ca :: dm) σ') : W G P none nt (.region id ops false) ta dm σ Q := by
  obtain ⟨rs', ta2, σ2, h1, h2, rfl, h3⟩ := h
  refine ⟨.normal, ta2, _, σ2, ?_, h3⟩
  have hpre := fun rc => h1.pre (rc := rc) 0 [o] (by simpa using hops)
  refine ⟨(hpre none).1, fun μ w a rc hs hG hf ht hd hrd Q hQ => wpIn_region ?_⟩
  obtain rfl : rc = none := by cases rc with | none => rfl | some r => exact hrd.elim
  have hsz : ops.size = l.length + 1 := by rw [← Array.length_toList, hops]; simp
  have key := (hpre none).2 μ w a hs hG hf ht Q [l.length] fun a' w' μ' he hst htr => ?_
  · rw [hsz, List.range_succ, List.range_eq_range']
    exact key
  · have hlo : ops[l.length]? = some o := by
      rw [← Array.getElem?_toList, hops]; simp
    have hw : Region.wanted o (yielded ops a'.tmps) = true := by unfold Region.wanted; rw [hg]
    simp only [wpOpsIn, hlo, hw, if_true]
    have hor := orel_ofR hst.sim htr hk
    have h1 := hor x (by rw [ho]; simp [Op.operands, Call.operands, hc])
    rw [h2] at h1
    obtain ⟨fa', ca', e1, ha, hca⟩ := h1.func_inv
    have hargs := ARel.map (μ := μ') (ρ := oper2 ta2) (ρc := a'.eval) (xs := c.args) fun y hy => hor y (by rw [ho]; simp only [Op.operands, Call.operands, hc]; simp [hy])
    have hrun' : (execOp a'.eval o).run P w' = .ok (.defer { target := .fn (.func f) ca', args := fa' ++ c.args.map a'.eval }) w' := by
      unfold execOp
      simp only [ho, Sem.run_bind, resolve_value hc e1, Result.andThen_ok, Sem.run_pure]
    refine ⟨fun _ _ => trivial, ?_⟩
    have hsem : (o.semAt (FW none).round a'.eval).run P w' = .ok (.defer { target := .fn (.func f) ca', args := fa' ++ c.args.map a'.eval }) w' := hrun'
    rw [hsem, Oper.uponIn_defer, hdst]
    exact hQ _ w' μ' ⟨⟨_, _, rfl, ha.append hargs, hca⟩, by rw [he]; exact hd.ext hst.extE⟩ hst htr
def WD (G : Nat) (P : Program) (nt : Nat) (c : Code) (ta : Nat → Value) (σ : Mem) (Q : Exit → (Nat → Value) → Mem → Prop) : Prop := ∃ ex ta' σ', SDCode G P nt c ta σ ex ta' σ' ∧ Q ex ta' σ'
def seqQD (G : Nat) (P : Program) (nt : Nat) (y : Code) (Q : Exit → (Nat → Value) → Mem → Prop) : Exit → (Nat → Value) → Mem → Prop
  | .normal, ta, σ => WD G P nt y ta σ Q
  | ex, ta, σ => Q ex ta σ
theorem WD.of {c : Code} {Q : Exit → (Nat → Value) → Mem → Prop} (h : W G P none nt c ta [] σ fun ex ta' dm' σ' => dm' = [] ∧ Q ex ta' σ') : WD G P nt c ta σ Q := by
  obtain ⟨ex, ta', dm', σ', h1, rfl, h2⟩ := h
  exact ⟨ex, ta', σ', SDCode.of h1, h2⟩
theorem WD.seq {x y : Code} {Q : Exit → (Nat → Value) → Mem → Prop} (h : WD G P nt x ta σ (seqQD G P nt y Q)) : WD G P nt (.seq x y) ta σ Q := by
  obtain ⟨ex, ta', σ', h1, h2⟩ := h
  by_cases hx : ex = .normal
  · subst hx
    obtain ⟨ex2, ta2, σ2, h3, h4⟩ := h2
    exact ⟨ex2, ta2, σ2, h1.seq h3, h4⟩
  · refine ⟨ex, ta', σ', h1.seq_out hx, ?_⟩
    unfold seqQD at h2
    split at h2
    · exact absurd rfl hx
    · exact h2
theorem WD.cond {x y : Code} {c : Operand} {b : Bool} {Q : Exit → (Nat → Value) → Mem → Prop} (hc : oper2 ta c = .bool b) (h1 : b = true → WD G P nt x ta σ Q) (h0 : b = false → WD G P nt y ta σ Q) : WD G P nt (.cond c x y) ta σ Q := by
  cases b with
  | true =>
    obtain ⟨ex, ta', σ', h, k⟩ := h1 rfl
    exact ⟨ex, ta', σ', SDCode.cond hc h, k⟩
  | false =>
    obtain ⟨ex, ta', σ', h, k⟩ := h0 rfl
    exact ⟨ex, ta', σ', SDCode.cond hc h, k⟩
theorem WD.recover {id : Nat} {o : Oper} {l : List Oper} {Q : Exit → (Nat → Value) → Mem → Prop} (hops : ops.toList = o :: l) (hg : o.guard = none) (hrec : isRec o = true) (hd : dstOk nt o.dst = true) (h : RW G P nt ops l (putO ta o.dst .nilIface) σ [] fun _ ta' σ' => Q .normal ta' σ') : WD G P nt (.region id ops false) ta σ Q := by
  obtain ⟨rs', ta2, σ2, h1, h2⟩ := h
  refine ⟨.normal, ta2, σ2, ?_, h2⟩
  have hdrop : ops.toList.drop 1 = l := by rw [hops]; rfl
  have ho : ops[0]? = some o := by rw [← Array.getElem?_toList, hops]; rfl
  have hl : ops.size - 1 = l.length := by rw [← Array.length_toList, hops]; simp
  refine ⟨(h1.text (rc := none) 1 hdrop).1, fun μ w a cs hs hG hf ht hd2 hr Q hQ => ?_⟩
  refine wpSIn_recFirst rfl ho hg (isRec_run (P := P) hrec a w) (fun _ _ => trivial) hr ?_
  rw [hl]
  refine (h1.text (rc := none) 1 hdrop).2 μ w _ hs hG hf (putO_rel hd ht (.flat _ rfl)) _ fun a' w' μ' he hst htr => hQ a' w' μ' ?_ hst htr
  rw [he]
  cases o.dst <;> exact hd2
theorem WD.enter {f : FuncId} {args : Array Value} {fn : Func} {c : Code} {R : Mem → Prop} (hf : P.funcs[f]? = some fn) (hb : fn.body = some c) (hrs : fn.results = #[]) (h : WD G P (args.size + (fn.ntmps - args.size)) c (fun t => args.getD t undef) σ fun ex _ σ' => exOk ex = true ∧ R σ') : ∃ σ', SDCall G P f args σ σ' ∧ R σ' := by
  obtain ⟨ex, ta', σ', hs, hex, hR⟩ := h
  refine ⟨σ', ⟨hs.1, fun μ w cargs hsim hG hf' ha => callsDIn_of_wpSIn hf hb trivial fun c₀ cs hu => ?_⟩, hR⟩
  have hz : cargs.size = args.size := ha.1.symm
  refine hs.2 μ w { tmps := cargs ++ Array.replicate (fn.ntmps - cargs.size) undef, defers := [] } (c₀ :: cs) hsim hG hf' ⟨by simp [hz], fun t => ?_⟩ rfl (by simp [recoverD, hu]) _ fun a' w' μ' hd hst htr => ?_
  · show VRel μ (args.getD t undef) _
    simp only [Array.getD_eq_getD_getElem?, Array.getElem?_append, Array.getElem?_replicate]
    rcases Nat.lt_or_ge t args.size with h1 | h1
    · have h2 : t < cargs.size := by rw [← ha.1]; exact h1
      simp only [h1, h2, if_true, getElem?_pos, Option.getD_some]
      exact ha.2 t _ _ (by simp [h1]) (by simp [h2])
    · have h2 : ¬ t < cargs.size := by rw [← ha.1]; omega
      simp only [h2, if_false]
      rw [Array.getElem?_eq_none (by omega)]
      split <;> exact VRel.undef μ
  · obtain ⟨vc, hrun, hv⟩ := (sres (G := G) (P := P) (σ := σ') (ta := ta') (fn := fn) (nt := args.size + (fn.ntmps - args.size)) (vs := []) (by rw [hrs]; rfl)) μ' w' a'.tmps hst.sim htr
    have hc0 : c₀ :: cs = { c₀ with mode := .returning } :: cs := by rw [← hu]
    have hpost : bodyPostS P fn c₀ cs (fun e0 u' w'' => ∃ v μ'', e0 = .returned v ∧ u' = .returning ∧ Stp G σ μ w σ' μ'' w'') .ret a' (c₀ :: cs) w' := ⟨hd, .returning, hc0, vc, hrun, vc, μ', rfl, rfl, hst⟩
    cases ex <;> first | exact hpost | (simp [exOk] at hex; done)
theorem Shut.one {f : FuncId} {args caps : Array Value} {bs : List DItem} {σ σ1 σ2 : Mem} (hp : plainFn P f = true) (hc : SDCall G P f (args ++ caps) σ σ1) (h : Shut G P bs σ1 σ2) : Shut G P (.call f args caps :: bs) σ σ2 := .call (fun as cs w => invoke_func hp cs as w) hc h
end Go.Proofs.YtaaebeiigkhcjaaGreatDoor
