/-
  Panics in the second memory: their values have no address; deferred calls that recover. Over any program. Conditions: none.
-/
import Derived.Test.YthemeeiedlbhkaaGreatDoorSo
import Derived.RecoverIn
namespace Go.Proofs.YthemeeiedlbhkaaGreatDoor
variable {P : Program} {G : Nat} {nt : Nat}

def panC (v : Value) : List PanicEntry := [{ v := v, recovered := false }]
/-- A call that panics. -/
def SCallP (G : Nat) (P : Program) (f : FuncId) (args : Array Value) (σ : Mem) (v : Value) (σ' : Mem) : Prop :=
  σ.next ≤ σ'.next ∧ ∀ μ w cargs, Sim G μ σ w → G ≤ σ.next → Fresh μ σ σ' → ARel μ args cargs → Calls P f cargs w fun e w' => ∃ μ', e = .panicked (panC v) ∧ Stp G σ μ w σ' μ' w'
/-- An operation that panics. -/
def EOpP (G : Nat) (P : Program) (o : Oper) (ρ : Operand → Value) (σ : Mem) (v : Value) (σ' : Mem) : Prop :=
  σ.next ≤ σ'.next ∧ ∀ μ w (a : Act), Sim G μ σ w → G ≤ σ.next → Fresh μ σ σ' → ORel μ ρ a.eval o.op.operands → ∀ (K : Act → World → Prop) (Q : Exit → Act → World → Prop),
    (∀ w' μ', Stp G σ μ w σ' μ' w' → Q (.panic (panC v)) a w') → ∀ rd, o.wpIn (FW rd) 0 P a w K Q
theorem wp_of_enterP {o : Oper} {a : Act} {w w' : World} {K : Act → World → Prop} {Q : Exit → Act → World → Prop} {rd : Option Nat} {f : FuncId} {args : Array Value} {ch : List PanicEntry} (h : (execOp a.eval o).run P w = .ok (.enter f args) w')
    (k : Calls P f args w' fun e w'' => e = .panicked ch ∧ Q (.panic ch) a w'') : o.wpIn (FW rd) 0 P a w K Q := by
  refine ⟨fun _ _ => trivial, ?_⟩
  rw [Oper.semAt_eq _ _ _ (not_defer h (by simp)), h]
  refine ⟨fun h => (by simp [Fence.wide] at h), ?_⟩
  refine (callsIn_wide.2 (k.mono ?_) : CallsIn Fence.wide 0 P f args w' _)
  rintro e w'' ⟨rfl, hk⟩
  exact hk
theorem eop_callP {o : Oper} {ρ : Operand → Value} {c : Call} {x : Operand} {f : FuncId} {fa ca : Array Value} {σ σ' : Mem} {v : Value} (ho : o.op = .call c) (hc : c.callee = .value x) (hx : ρ x = .func (.func f) fa ca) (hp : plainFn P f = true)
    (h : SCallP G P f (fa ++ c.args.map ρ ++ ca) σ v σ') : EOpP G P o ρ σ v σ' := by
  refine ⟨h.1, fun μ w a hs hG hf hor K Q k rd => ?_⟩
  rw [ho] at hor
  have hops : ∀ y, y = x ∨ y ∈ c.args → y ∈ (Op.call c).operands := fun y hy => by
    simp only [Op.operands, Call.operands, hc]
    rcases hy with rfl | hy <;> simp [*]
  have h1 := hor x (hops x (.inl rfl))
  rw [hx] at h1
  obtain ⟨fa', ca', e, ha, hca⟩ := h1.func_inv
  have hargs := ARel.map fun y hy => hor y (hops y (.inr hy))
  refine wp_of_enterP (f := f) (args := fa' ++ c.args.map a.eval ++ ca') (w' := w) (ch := panC v) ?_ ?_
  · unfold execOp
    simp only [ho, Sem.run_bind, resolve_value hc e, Result.andThen_ok, invoke_func hp]
  · refine (h.2 μ w _ hs hG hf ((ha.append hargs).append hca)).mono ?_
    rintro e w' ⟨μ', rfl, hst⟩
    exact ⟨rfl, k w' μ' hst⟩
theorem eop_panic {o : Oper} {ρ : Operand → Value} {x : Operand} {t : TypeId} {u : Value} {σ : Mem} (ho : o.op = .panic x) (hx : ρ x = .iface t u) (hc : closedV 3 (.iface t u) = true) : EOpP G P o ρ σ (.iface t u) σ := by
  refine ⟨Nat.le_refl _, fun μ w a hs hG hf hor K Q k rd => ⟨fun _ _ => trivial, ?_⟩⟩
  rw [ho] at hor
  have h1 := hor x (by simp [Op.operands])
  rw [hx] at h1
  have e := closedV_eq 3 _ _ hc h1
  rw [Oper.semAt_eq _ _ _ (fun c h => by rw [ho] at h; cases h)]
  have hr : (execOp a.eval o).run P w = .halt (.panic (.iface t u)) w := by
    unfold execOp
    rw [ho]
    simp only [e]
    rfl
  rw [hr]
  exact k w μ (Stp.refl hs hG)
/-- Which call an operation is that panics, or which value. -/
noncomputable def panOp (pan : FuncId → Array Value → EM → Option (Value × EM)) (P : Program) (e : EM) (o : Oper) (ρ : Operand → Value) : Option (Value × EM) :=
  match o.op with
  | .panic x => (match ρ x with
    | .iface t u => cond (closedV 3 (.iface t u)) (some (.iface t u, e)) none
    | _ => none)
  | .call c => (match c.callee with
    | .value x => (match ρ x with
      | .func (.func f) fa ca => cond (plainFn P f) (pan f (fa ++ c.args.map ρ ++ ca) e) none
      | _ => none)
    | _ => none)
  | _ => none
def PanRight (pan : FuncId → Array Value → EM → Option (Value × EM)) (G : Nat) (P : Program) : Prop := ∀ f args e v e', pan f args e = some (v, e') → SCallP G P f args e.mem v e'.mem
theorem panOp_right {pan : FuncId → Array Value → EM → Option (Value × EM)} (hp : PanRight pan G P) {e e' : EM} {o : Oper} {ρ : Operand → Value} {v : Value} (h : panOp pan P e o ρ = some (v, e')) : EOpP G P o ρ e.mem v e'.mem := by
  unfold panOp at h
  split at h
  · rename_i x ho
    split at h
    · rename_i t u hx
      cases hc : closedV 3 (.iface t u) with
      | false => rw [hc] at h; cases h
      | true => rw [hc] at h; cases h; exact eop_panic ho hx hc
    · cases h
  · rename_i c ho
    split at h
    · rename_i x hx
      split at h
      · rename_i f fa ca hf
        cases hc : plainFn P f with
        | false => rw [hc] at h; cases h
        | true => rw [hc] at h; exact eop_callP ho hx hf hc (hp _ _ _ _ _ h)
      · cases h
    · cases h
  · cases h
/-- A region in the text's order, up to an operation that panics. -/
noncomputable def panRun (D : Doer) (pan : FuncId → Array Value → EM → Option (Value × EM)) (G : Nat) (P : Program) (nt : Nat) (ops : Array Oper) : List Oper → T Value → EM → Option (Value × T Value × EM)
  | [], _, _ => none
  | o :: l, tr, e => cond (wantedT ops (tmG tr) o)
      (cond (opndOk G o) (match opRun D G P e o (oper2 (tmG tr)) with
        | some (r, e1) => (match putDst nt tr (r.value e.mem) o.dst with
          | some tr1 => panRun D pan G P nt ops l tr1 e1
          | none => none)
        | none => (match panOp pan P e o (oper2 (tmG tr)) with
          | some (v, e1) => some (v, tr, e1)
          | none => none)) none)
      (match putDst nt tr undef o.dst with
        | some tr1 => panRun D pan G P nt ops l tr1 e
        | none => none)
theorem panRun_text {D : Doer} {pan : FuncId → Array Value → EM → Option (Value × EM)} (hD : D.Right G P) (hp0 : PanRight pan G P) {ops : Array Oper} {rc : Option Nat} : ∀ (l : List Oper) (j : Nat) (tr : T Value) (e : EM) (v : Value) (tr2 : T Value) (e2 : EM), ops.toList.drop j = l → panRun D pan G P nt ops l tr e = some (v, tr2, e2) →
    e.mem.next ≤ e2.mem.next ∧ ∀ μ w (a : Act), Sim G μ e.mem w → G ≤ e.mem.next → Fresh μ e.mem e2.mem → TRel μ nt (tmG tr) a.tmps → ∀ Q : Exit → Act → World → Prop, (∀ (a' : Act) w' μ', a'.defers = a.defers → Stp G e.mem μ w e2.mem μ' w' → TRel μ' nt (tmG tr2) a'.tmps → Q (.panic (panC v)) a' w') → wpOpsIn (FW rc) 0 P ops Q (List.range' j l.length) a w := by
  intro l
  induction l with
  | nil =>
    intro j tr e v tr2 e2 hj h
    simp only [panRun] at h
    cases h
  | cons o l ih =>
    intro j tr e v tr2 e2 hj h
    have hjo : ops[j]? = some o := by
      have := congrArg List.head? hj
      rw [List.head?_drop] at this
      simpa using this
    have hj' : ops.toList.drop (j + 1) = l := by
      have := congrArg List.tail hj
      simpa using this
    simp only [panRun] at h
    cases hw : wantedT ops (tmG tr) o with
    | false =>
      rw [hw] at h
      simp only [cond_false] at h
      split at h
      · rename_i tr1 hp
        obtain ⟨h1, h2⟩ := ih (j + 1) tr1 e v tr2 e2 hj' h
        refine ⟨h1, fun μ w a hs hG hf ht Q hQ => ?_⟩
        rw [List.length_cons, List.range'_succ]
        simp only [wpOpsIn, hjo, wanted_of ht, hw, Bool.false_eq_true, if_false]
        refine ⟨fun _ _ => trivial, h2 μ w _ hs hG hf (putDst_rel hp ht (VRel.undef μ)) Q fun a' w' μ' hd hst htr => hQ a' w' μ' (hd.trans ?_) hst htr⟩
        cases o.dst <;> rfl
      · cases h
    | true =>
      rw [hw] at h
      simp only [cond_true] at h
      cases hk : opndOk G o with
      | false => rw [hk] at h; cases h
      | true =>
        rw [hk] at h
        simp only [cond_true] at h
        split at h
        · rename_i r e1 hop
          split at h
          · rename_i tr1 hp
            obtain ⟨h1, h2⟩ := ih (j + 1) tr1 e1 v tr2 e2 hj' h
            have hright := opRun_right hD (fun _ => rfl) hop
            have heop := hright.eop
            refine ⟨Nat.le_trans heop.1 h1, fun μ w a hs hG hf ht Q hQ => ?_⟩
            rw [List.length_cons, List.range'_succ]
            simp only [wpOpsIn, hjo, wanted_of ht, hw, if_true]
            refine heop.2 μ w a hs hG (fun b g1 g2 => hf b g1 (Nat.lt_of_lt_of_le g2 h1)) (orel_of hs ht hk) _ _ (fun vc w1 μ1 s1 hv => ?_) rc
            refine h2 μ1 w1 _ s1.sim (Nat.le_trans hG s1.next) (fun b g1 g2 => ?_) (putDst_rel hp (ht.ext s1.extE) hv) Q fun a' w' μ' hd hst htr => hQ a' w' μ' (hd.trans ?_) (s1.trans hst) htr
            · rw [s1.ext b (.inr g1)]; exact hf b (Nat.le_trans s1.next g1) g2
            · cases o.dst <;> rfl
          · cases h
        · split at h
          · rename_i v' e1 hop
            cases h
            have heop := panOp_right hp0 hop
            refine ⟨heop.1, fun μ w a hs hG hf ht Q hQ => ?_⟩
            rw [List.length_cons, List.range'_succ]
            simp only [wpOpsIn, hjo, wanted_of ht, hw, if_true]
            exact heop.2 μ w a hs hG hf (orel_of hs ht hk) _ _ (fun w1 μ1 s1 => hQ a w1 μ1 rfl s1 (ht.ext s1.extE)) rc
          · cases h
theorem panRun_code {D : Doer} {pan : FuncId → Array Value → EM → Option (Value × EM)} (hD : D.Right G P) (hp : PanRight pan G P) {rd : Option Nat} {id : Nat} {ops : Array Oper} {tr tr2 : T Value} {e e2 : EM} {v : Value} {dm : List DItem} (h : panRun D pan G P nt ops ops.toList tr e = some (v, tr2, e2)) :
    SCode G P rd nt (.region id ops false) (tmG tr) dm e.mem (.panic (panC v)) (tmG tr2) dm e2.mem := by
  refine ⟨(panRun_text (nt := nt) (rc := none) hD hp (ops := ops) ops.toList 0 tr e v tr2 e2 rfl h).1, fun μ w a rc hs hG hf ht hd _ Q hQ => wpIn_region ?_⟩
  have h3 := (panRun_text (nt := nt) (rc := rc) hD hp (ops := ops) ops.toList 0 tr e v tr2 e2 rfl h).2 μ w a hs hG hf ht Q fun a' w' μ' he hst htr => hQ a' w' μ' (by rw [he]; exact hd.ext hst.extE) hst htr
  rw [List.range_eq_range']
  simpa using h3
/-- A deferred call that recovers. -/
def SDCallP (G : Nat) (P : Program) (f : FuncId) (args : Array Value) (v : Value) (σ σ' : Mem) : Prop :=
  σ.next ≤ σ'.next ∧ ∀ μ w cargs, Sim G μ σ w → G ≤ σ.next → Fresh μ σ σ' → ARel μ args cargs → CallsDIn (FW none) 0 P f cargs (.panicking (panC v)) w fun e u' w' => ∃ r μ', e = .returned r ∧ u' = .panicking [{ v := v, recovered := true }] ∧ Stp G σ μ w σ' μ' w'
inductive ShutP (G : Nat) (P : Program) (v : Value) : List DItem → Mem → Mem → Prop
  | mark {b : Nat} {bs : List DItem} {σ σ2 : Mem} (hx : σ.get b = some (.defs true)) (hb : G ≤ b) (h : ShutP G P v bs (σ.put b (.defs false)) σ2) : ShutP G P v (.mark b :: bs) σ σ2
  | call {f : FuncId} {args caps : Array Value} {bs : List DItem} {σ σ1 σ2 : Mem} (hp : ∀ as cs w, (invoke (.fn (.func f) cs) as).run P w = .ok (.enter f (as ++ cs)) w) (hc : SDCallP G P f (args ++ caps) v σ σ1) (h : Shut G P bs σ1 σ2) : ShutP G P v (.call f args caps :: bs) σ σ2
theorem ShutP.next {v : Value} {bs : List DItem} {σ σ2 : Mem} (h : ShutP G P v bs σ σ2) : σ.next ≤ σ2.next := by
  induction h with
  | mark _ _ _ ih => exact ih
  | call _ hc h => exact Nat.le_trans hc.1 h.next
theorem leavesP {fn : Func} {v0 : Value} {σ σ2 : Mem} {v : Value} {tmps : Array Value} {ta : Nat → Value} {dm : List DItem} (hr : SRes G P nt fn ta σ2 v) (h : ShutP G P v0 dm σ σ2) {R : Ending → World → Prop} : ∀ (ds : List Deferred) (μ : Mu) (w : World), DRel μ dm ds → Sim G μ σ w → G ≤ σ.next → Fresh μ σ σ2 → TRel μ nt ta tmps →
    (∀ vc w' μ', Stp G σ μ w σ2 μ' w' → VRel μ' v vc → R (.returned vc) w') → LeavesInM (FW none) 0 P fn tmps R ds (.panicking (panC v0)) w := by
  induction h with
  | @mark b bs σ σ2 hx hb h ih =>
    intro ds μ w hd hs hG hf ht hR
    cases ds with
    | nil => exact hd.elim
    | cons d ds =>
      obtain ⟨⟨bi, hb', hd'⟩, hds⟩ := hd
      have hin : w.heap[bi.blk]? = some (.deferred (some [])) := hs.blk b _ bi hx hb'
      have st := Stp.setObj (o := .deferred none) (y := .defs false) hs hG hb hx hb' (fun w' hw => hw)
      refine ⟨by simp, .inl ⟨bi.blk, _, by rw [hd'], ?_, ih hr ds μ _ hds st.sim hG hf ht fun vc w' μ' st2 hv => hR vc w' μ' (st.trans st2) hv⟩⟩
      unfold Instr.takeDeferred
      simp only [Sem.run_bind, getObj_run hin (by simp), Result.andThen_ok, setObj_run hin (by simp)]
      rfl
  | @call f args caps bs σ σ1 σ2 hp hc h =>
    intro ds μ w hd hs hG hf ht hR
    cases ds with
    | nil => exact hd.elim
    | cons d ds =>
      obtain ⟨⟨as', cs', hd', ha, hca⟩, hds⟩ := hd
      refine ⟨by simp, .inr ⟨fun h => by simp [Fence.wide] at h, .func f, cs', f, as' ++ cs', by rw [hd'], by rw [hd']; exact hp _ _ _, fun _ _ => trivial, ?_⟩⟩
      refine (hc.2 μ w (as' ++ cs') hs hG (hf.left h.next) (ha.appendE hca)).mono ?_
      rintro e u' w1 ⟨v1, μ1, rfl, rfl, st⟩
      exact leaves hr h ds μ1 w1 (hds.ext st.extE) st.sim (Nat.le_trans hG st.next) (hf.right st) (ht.ext st.extE) fun vc w' μ' st2 hv => hR vc w' μ' (st.trans st2) hv
theorem args_rel {μ : Mu} {args cargs : Array Value} {n : Nat} (ha : ARel μ args cargs) : TRel μ (args.size + (n - args.size)) (fun t => args.getD t undef) (cargs ++ Array.replicate (n - cargs.size) undef) := by
  refine ⟨by simp [ha.1], fun t => ?_⟩
  simp only [Array.getD_eq_getD_getElem?, Array.getElem?_append, Array.getElem?_replicate]
  rcases Nat.lt_or_ge t args.size with h1 | h1
  · have h2 : t < cargs.size := by rw [← ha.1]; exact h1
    simp only [h1, h2, if_true, getElem?_pos, Option.getD_some]
    exact ha.2 t _ _ (by simp [h1]) (by simp [h2])
  · have h2 : ¬ t < cargs.size := by rw [← ha.1]; omega
    simp only [h2, if_false]
    rw [Array.getElem?_eq_none (by omega)]
    split <;> exact VRel.undef μ
/-- A function that panics within, and recovers. -/
theorem SCall.of_recovered {f : FuncId} {fn : Func} {c : Code} {args : Array Value} {σ σ' σ2 : Mem} {v0 : Value} {ta' : Nat → Value} {dm : List DItem} {v : Value} (hf : P.funcs[f]? = some fn) (hb : fn.body = some c)
    (h : SCode G P none (args.size + (fn.ntmps - args.size)) c (fun t => args.getD t undef) [] σ (.panic (panC v0)) ta' dm σ') (hs : ShutP G P v0 dm σ' σ2)
    (hr : SRes G P (args.size + (fn.ntmps - args.size)) fn ta' σ2 v) : SCall G P f args σ v σ2 := by
  refine ⟨Nat.le_trans h.1 hs.next, fun μ w cargs hsim hG hfr ha => ?_⟩
  refine (callsIn_wide (n := 0)).1 (callsIn_of_wp_marks (F := FW none) hf hb trivial (h.2 μ w { tmps := cargs ++ Array.replicate (fn.ntmps - cargs.size) undef, defers := [] } none hsim hG (hfr.left hs.next) (args_rel ha) trivial trivial _ fun a' w' μ' hd' hst htr => ?_))
  exact leavesP hr hs a'.defers μ' w' hd' hst.sim (Nat.le_trans hG hst.next) (hfr.right hst) htr fun vc w2 μ2 st hv => ⟨vc, μ2, rfl, hst.trans st, hv⟩
/-- A function that panics. -/
theorem SCallP.of_code {f : FuncId} {fn : Func} {c : Code} {args : Array Value} {σ σ' : Mem} {v0 : Value} {ta' : Nat → Value} (hf : P.funcs[f]? = some fn) (hb : fn.body = some c)
    (h : SCode G P none (args.size + (fn.ntmps - args.size)) c (fun t => args.getD t undef) [] σ (.panic (panC v0)) ta' [] σ') : SCallP G P f args σ v0 σ' := by
  refine ⟨h.1, fun μ w cargs hsim hG hfr ha => ?_⟩
  refine (callsIn_wide (n := 0)).1 (callsIn_of_wp_marks (F := FW none) hf hb trivial (h.2 μ w { tmps := cargs ++ Array.replicate (fn.ntmps - cargs.size) undef, defers := [] } none hsim hG hfr (args_rel ha) trivial trivial _ fun a' w' μ' hd' hst htr => ?_))
  cases hdd : a'.defers with
  | nil =>
    have hl : LeavesInM (FW none) 0 P fn a'.tmps (fun e w' => ∃ μ', e = .panicked (panC v0) ∧ Stp G σ μ w σ' μ' w') [] (.panicking (panC v0)) w' := ⟨μ', rfl, hst⟩
    rw [← hdd] at hl
    exact hl
  | cons d ds => rw [hdd] at hd'; exact hd'.elim
/-- A deferred call's body, where there is nothing to recover. -/
def SDCode (G : Nat) (P : Program) (nt : Nat) (c : Code) (ta : Nat → Value) (σ : Mem) (ex : Exit) (ta' : Nat → Value) (σ' : Mem) : Prop :=
  σ.next ≤ σ'.next ∧ ∀ μ w (a : Act) cs, Sim G μ σ w → G ≤ σ.next → Fresh μ σ σ' → TRel μ nt ta a.tmps → a.defers = [] → recoverD cs = none → ∀ Q : Exit → Act → List Frame → World → Prop, (∀ (a' : Act) w' μ', a'.defers = [] → Stp G σ μ w σ' μ' w' → TRel μ' nt ta' a'.tmps → Q ex a' cs w') → c.wpSIn (FW none) 0 P Q a cs w
/-- A deferred call's body that recovers. -/
def SDCodeP (G : Nat) (P : Program) (nt : Nat) (c : Code) (ta : Nat → Value) (v : Value) (σ : Mem) (ex : Exit) (ta' : Nat → Value) (σ' : Mem) : Prop :=
  σ.next ≤ σ'.next ∧ ∀ μ w (a : Act) cs cs1, Sim G μ σ w → G ≤ σ.next → Fresh μ σ σ' → TRel μ nt ta a.tmps → a.defers = [] → recoverD cs = some (v, cs1) → recoverD cs1 = none → ∀ Q : Exit → Act → List Frame → World → Prop, (∀ (a' : Act) w' μ', a'.defers = [] → Stp G σ μ w σ' μ' w' → TRel μ' nt ta' a'.tmps → Q ex a' cs1 w') → c.wpSIn (FW none) 0 P Q a cs w
theorem SDCodeP.seq {x y : Code} {ta ta1 ta2 : Nat → Value} {v : Value} {σ σ1 σ2 : Mem} {ex : Exit} (h : SDCodeP G P nt x ta v σ .normal ta1 σ1) (k : SDCode G P nt y ta1 σ1 ex ta2 σ2) : SDCodeP G P nt (.seq x y) ta v σ ex ta2 σ2 :=
  ⟨Nat.le_trans h.1 k.1, fun μ w a cs cs1 hs hG hf ht hd hr hr1 Q hQ => wpSIn_seq (h.2 μ w a cs cs1 hs hG (hf.left k.1) ht hd hr hr1 _ fun a1 w1 μ1 hd1 hst htr =>
    k.2 μ1 w1 a1 cs1 hst.sim (Nat.le_trans hG hst.next) (hf.right hst) htr hd1 hr1 Q fun a2 w2 μ2 hd2 hst2 htr2 => hQ a2 w2 μ2 hd2 (hst.trans hst2) htr2)⟩
theorem SDCodeP.later {x y : Code} {ta ta1 ta2 : Nat → Value} {v : Value} {σ σ1 σ2 : Mem} {ex : Exit} (h : SCode G P none nt x ta [] σ .normal ta1 [] σ1) (k : SDCodeP G P nt y ta1 v σ1 ex ta2 σ2) : SDCodeP G P nt (.seq x y) ta v σ ex ta2 σ2 :=
  ⟨Nat.le_trans h.1 k.1, fun μ w a cs cs1 hs hG hf ht hd hr hr1 Q hQ => wpSIn_seq (wpSIn_of_wpIn rfl (h.2 μ w a none hs hG (hf.left k.1) ht (by rw [hd]; trivial) trivial _ fun a1 w1 μ1 hd1 hst htr =>
    k.2 μ1 w1 a1 cs cs1 hst.sim (Nat.le_trans hG hst.next) (hf.right hst) htr (by
      cases hdd : a1.defers with
      | nil => rfl
      | cons d ds => rw [hdd] at hd1; exact hd1.elim) hr hr1 Q fun a2 w2 μ2 hd2 hst2 htr2 => hQ a2 w2 μ2 hd2 (hst.trans hst2) htr2))⟩
theorem SDCodeP.seq_out {x y : Code} {ta ta1 : Nat → Value} {v : Value} {σ σ1 : Mem} {ex : Exit} (h : SDCodeP G P nt x ta v σ ex ta1 σ1) (hx : ex ≠ .normal) : SDCodeP G P nt (.seq x y) ta v σ ex ta1 σ1 :=
  ⟨h.1, fun μ w a cs cs1 hs hG hf ht hd hr hr1 Q hQ => wpSIn_seq (h.2 μ w a cs cs1 hs hG hf ht hd hr hr1 _ fun a1 w1 μ1 hd hst htr => by
    have := hQ a1 w1 μ1 hd hst htr
    cases ex <;> first | exact absurd rfl hx | exact this)⟩
theorem SDCodeP.cond {x y : Code} {c : Operand} {ta ta1 : Nat → Value} {v : Value} {σ σ1 : Mem} {ex : Exit} {b : Bool} (hc : oper2 ta c = .bool b) (h : SDCodeP G P nt (if b then x else y) ta v σ ex ta1 σ1) : SDCodeP G P nt (.cond c x y) ta v σ ex ta1 σ1 :=
  ⟨h.1, fun μ w a cs cs1 hs hG hf ht hd hr hr1 Q hQ => wpSIn_cond (t := b) (by
    cases c with
    | tmp t => exact ((ht.2 t).bool_iff b).2 hc
    | const v => exact hc
    | global g => cases hc
    | func f => cases hc) (h.2 μ w a cs cs1 hs hG hf ht hd hr hr1 Q hQ)⟩
theorem wpSIn_recFirstP {F : Fence} {n id : Nat} {ops : Array Oper} {Q : Exit → Act → List Frame → World → Prop} {a : Act} {cs cs1 : List Frame} {w : World} {o : Oper} {v : Value} (hfr : F.round = none) (ho : ops[0]? = some o) (hgd : o.guard = none) (hrun : (execOp a.eval o).run P w = .ok .recover w) (hab : ∀ f, o.about P w a.eval = some f → F.fn f) (hrec : recoverD cs = some (v, cs1))
    (h : wpOpsIn F n P ops (fun e a' w' => Q e a' cs1 w') (List.range' 1 (ops.size - 1)) (a.put o.dst v) w) : (Code.region id ops false).wpSIn F n P Q a cs w := by
  intro b k hb hro hF hroom
  have hlen := recoverD_length hrec
  obtain ⟨e, a', w', hq, harr⟩ := wp_opsIn _ _ w h b k cs1 (hro.trans hfr.symm) hF (hlen ▸ hroom)
  have hsz : 0 < ops.size := (Array.getElem?_eq_some_iff.1 ho).1
  have hrange : List.range ops.size = 0 :: List.range' 1 (ops.size - 1) := by
    rw [List.range_eq_range']
    obtain ⟨m, hm⟩ : ∃ m, ops.size = m + 1 := ⟨ops.size - 1, by omega⟩
    rw [hm, List.range'_succ]
    simp
  have hw : Region.wanted o (yielded ops a.tmps) = true := by unfold Region.wanted; rw [hgd]
  have h0 : (lone (b.atR a (.inRegion ops (0 :: List.range' 1 (ops.size - 1)) :: k)) cs w).fenced P F := fenced_oper hF hroom ho hab
  have hg := stepGR_op (P := P) (b := b) (k := k) (cs := cs) (w := w) (rest := List.range' 1 (ops.size - 1)) ho hw
  rw [hro, Oper.semAt_none] at hg
  have hfin : ∀ v, (b.atR a (.inRegion ops (0 :: List.range' 1 (ops.size - 1)) :: k)).finish v = b.atR (a.put o.dst v) (.inRegion ops (List.range' 1 (ops.size - 1)) :: k) := by
    intro v; rw [Frame.finish_atR, ho]; rfl
  have hk : (b.atR a (.inRegion ops (0 :: List.range' 1 (ops.size - 1)) :: k)).kind = .deferred := hb
  have htr := tryRecover_deferred hk cs
  refine ⟨e, a', cs1, w', hlen, hq, .of_steps (.one (fenced_calm hF hroom rfl) stepR_region) ?_⟩
  rw [hrange]
  refine .of_steps (.one h0 (step_lone_go ?_)) harr
  rw [hg, ← hfin]
  simp only [Frame.atR, hro] at htr ⊢
  simp [stepG.apply, hrun, htr, hrec]
/-- Is an operation a call of recover? -/
def isRec (o : Oper) : Bool := match o.op with
  | .call c => (match c.callee with | .builtin .recover => true | _ => false)
  | _ => false
theorem isRec_run {o : Oper} (hrec : isRec o = true) (a : Act) (w : World) : (execOp a.eval o).run P w = .ok .recover w := by
  unfold isRec at hrec
  split at hrec
  · rename_i c ho
    split at hrec
    · rename_i hc
      unfold execOp
      simp only [ho, Sem.run_bind, resolve, hc, Result.andThen_ok, Sem.run_pure]
      rfl
    · cases hrec
  · cases hrec
/-- A region that begins with a call of recover, where a panic is recovered. -/
noncomputable def recRunP (D : Doer) (G : Nat) (P : Program) (nt : Nat) (ops : Array Oper) (v : Value) (e : EM) (tr : T Value) : Option (T Value × EM) :=
  match ops.toList with
  | o :: l => (match o.guard with
    | none => cond (isRec o) (match putDst nt tr v o.dst with
      | some tr1 => (match regRun D G P nt ops l tr1 e with
        | some (_, tr2, e2) => some (tr2, e2)
        | none => none)
      | none => none) none
    | some _ => none)
  | [] => none
theorem recRunP_right {D : Doer} (hD : D.Right G P) {id : Nat} {ops : Array Oper} {e e2 : EM} {tr tr2 : T Value} {v : Value} (hv : closedV 3 v = true) (h : recRunP D G P nt ops v e tr = some (tr2, e2)) : SDCodeP G P nt (.region id ops false) (tmG tr) v e.mem .normal (tmG tr2) e2.mem := by
  unfold recRunP at h
  split at h
  · rename_i o l hops
    split at h
    · rename_i hg
      cases hrec : isRec o with
      | false => rw [hrec] at h; cases h
      | true =>
        rw [hrec] at h
        simp only [cond_true] at h
        split at h
        · rename_i tr1 hp
          split at h
          · rename_i rs tr2' e2' hrun
            cases h
            have hdrop : ops.toList.drop 1 = l := by rw [hops]; rfl
            have ho : ops[0]? = some o := by rw [← Array.getElem?_toList, hops]; rfl
            have hl : ops.size - 1 = l.length := by rw [← Array.length_toList, hops]; simp
            refine ⟨(regRun_text (nt := nt) (rc := none) hD (ops := ops) l 1 tr1 e rs tr2 e2 hdrop hrun).1, fun μ w a cs cs1 hs hG hf ht hd hr _ Q hQ => ?_⟩
            refine wpSIn_recFirstP rfl ho hg (isRec_run hrec a w) (fun _ _ => trivial) hr ?_
            rw [hl]
            refine (regRun_text (nt := nt) (rc := none) hD (ops := ops) l 1 tr1 e rs tr2 e2 hdrop hrun).2 μ w _ hs hG hf (putDst_rel hp ht (closedV_rel μ 3 v hv)) _ fun a' w' μ' he hst htr => hQ a' w' μ' ?_ hst htr
            rw [he]
            cases o.dst <;> exact hd
          · cases h
        · cases h
    · cases h
  · cases h
end Go.Proofs.YthemeeiedlbhkaaGreatDoor
