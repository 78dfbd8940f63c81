/-
  Calls, and ranges over a function: over any program. Conditions: none.
-/
import Derived.Test.YtmlmnbcnfalaaaaDoorSu
namespace Go.Proofs.YtmlmnbcnfalaaaaDoor
variable {P : Program} {G : Nat} {nt : Nat}

/-- A function with a body of its own. -/
noncomputable def plainFn (P : Program) (f : FuncId) : Bool := match fT P f with | some fn => !(fn.name == "runtime.NumGoroutine") && fn.body.isSome | none => false
theorem callFunc_run {f : FuncId} (h : plainFn P f = true) (args : Array Value) (w : World) : (callFunc f args).run P w = .ok (.enter f args) w := by
  unfold plainFn at h
  try simp only [fT_eq] at h
  unfold callFunc
  simp only [Sem.run_bind, run_program, Result.andThen_ok]
  cases hf : P.funcs[f]? with
  | none => rw [hf] at h; cases h
  | some fn =>
    rw [hf] at h
    simp only [Bool.and_eq_true, Bool.not_eq_true'] at h
    have h1 : fn.body.isNone = false := by cases hb : fn.body <;> simp_all
    simp [h.1, h1]
theorem invoke_func {f : FuncId} (h : plainFn P f = true) (ca args : Array Value) (w : World) : (invoke (.fn (.func f) ca) args).run P w = .ok (.enter f (args ++ ca)) w := by
  unfold invoke
  exact callFunc_run h _ w
theorem resolve_value {ρ : Operand → Value} {c : Call} {x : Operand} (hc : c.callee = .value x) {fn : Fn} {fa ca : Array Value} (hx : ρ x = .func fn fa ca) (t : TypeId) (w : World) : (resolve ρ c t).run P w = .ok { target := .fn fn ca, args := fa ++ c.args.map ρ } w := by
  unfold resolve
  simp only [hc, hx, Deferred.ofValue]
  rfl
theorem ARel.append {μ : Mu} {a b a' b' : Array Value} (h : ARel μ a a') (k : ARel μ b b') : ARel μ (a ++ b) (a' ++ b') := by
  refine ⟨by simp [h.1, k.1], fun i v v' h1 h2 => ?_⟩
  rw [Array.getElem?_append] at h1 h2
  rw [← h.1] at h2
  split at h1
  · rename_i hi
    rw [if_pos hi] at h2
    exact h.2 i v v' h1 h2
  · rename_i hi
    rw [if_neg hi] at h2
    exact k.2 _ v v' h1 h2
theorem ARel.one {μ : Mu} {v v' : Value} (h : VRel μ v v') : ARel μ #[v] #[v'] := ⟨rfl, fun i x x' h1 h2 => by
  cases i with
  | zero => simp at h1 h2; rw [← h1, ← h2]; exact h
  | succ i => simp at h1⟩
theorem ARel.map {μ : Mu} {ρ ρc : Operand → Value} {xs : Array Operand} (h : ∀ x ∈ xs, VRel μ (ρ x) (ρc x)) : ARel μ (xs.map ρ) (xs.map ρc) := ⟨by simp, fun i v v' h1 h2 => by
  rw [Array.getElem?_map] at h1 h2
  cases hx : xs[i]? with
  | none => rw [hx] at h1; cases h1
  | some x =>
    rw [hx] at h1 h2
    cases h1
    cases h2
    exact h x (Array.mem_of_getElem? hx)⟩
theorem VRel.func_inv {μ : Mu} {f : FuncId} {fa ca : Array Value} : ∀ {v' : Value}, VRel μ (.func (.func f) fa ca) v' → ∃ fa' ca', v' = .func (.func f) fa' ca' ∧ ARel μ fa fa' ∧ ARel μ ca ca'
  | _, .flat _ h => by simp [flatV] at h
  | _, .func _ _ a' _ c' _ hs h ks k => ⟨a', c', rfl, ⟨hs, h⟩, ⟨ks, k⟩⟩
/-- A call of a function value. -/
theorem eop_call {o : Oper} {ρ : Operand → Value} {c : Call} {x : Operand} {f : FuncId} {fa ca : Array Value} {σ σ' : Mem} {v : Value} (ho : o.op = .call c) (hc : c.callee = .value x) (hx : ρ x = .func (.func f) fa ca) (hp : plainFn P f = true)
    (h : SCall G P f (fa ++ c.args.map ρ ++ ca) σ v σ') : EOp G P o ρ σ v σ' := by
  refine ⟨h.1, fun μ w a hs hG hf hor K Q k rd => ?_⟩
  rw [ho] at hor
  have hops : ∀ y, y = x ∨ y ∈ c.args → y ∈ (Op.call c).operands := fun y hy => by
    simp only [Op.operands, Call.operands, hc]
    rcases hy with rfl | hy <;> simp [*]
  have h1 := hor x (hops x (.inl rfl))
  rw [hx] at h1
  obtain ⟨fa', ca', e, ha, hca⟩ := h1.func_inv
  have hargs := ARel.map fun y hy => hor y (hops y (.inr hy))
  refine wp_of_enter (f := f) (args := fa' ++ c.args.map a.eval ++ ca') (w' := w) ?_ ?_
  · unfold execOp
    simp only [ho, Sem.run_bind, resolve_value hc e, Result.andThen_ok, invoke_func hp]
  · refine (h.2 μ w _ hs hG hf ((ha.append hargs).append hca)).mono ?_
    rintro e w' ⟨vc, μ', rfl, hst, hv⟩
    exact ⟨vc, rfl, k vc w' μ' hst hv⟩

/-- Where a loop over a function is left to. -/
def leftBy : Option Code → Option Exit
  | none => some .normal
  | some .ret => some .ret
  | some (.exit i) => some (.exit i)
  | _ => none
theorem low_of_mem {σ σ' : Mem} {μ μ' : Mu} {w w' : World} (h : Stp G σ μ w σ' μ' w') {b : Nat} (hb : σ.next ≤ b) : G ≤ b := Nat.le_trans h.low hb
section
variable {ta ta1 : Nat → Value} {dm : List DItem} {σ σ2 : Mem} {g : Operand} {ps : Array Tmp} {assign body : Code} {f : FuncId} {fa ca : Array Value} {v : Value} {st : LoopState} {pe : Option Code} {nt' : Nat} {ta' : Nat → Value} {ps' : Array Tmp} {as' bo' : Code} {df' : Nat} {ex : Exit}
theorem endLoop_run {w : World} {l : Nat} {L : Loop} (h : w.heap[l]? = some (.loop L)) (hb : (L.state == .busy) = false) : (Instr.endLoop l).run P w = .ok L.pending { w with heap := w.heap.setIfInBounds l (.loop { L with state := .exhausted }) } := by
  unfold Instr.endLoop Instr.getLoop
  simp only [Sem.run_bind, getObj_run h (by simp), Result.andThen_ok]
  simp only [Sem.run_pure, Result.andThen_ok, hb, Bool.false_eq_true, if_false, Sem.run_bind]
  simp [setObj_run h]
/-- What follows the call of a range over a function. -/
theorem range_post {rc : Option Nat} {l : Nat} {μ : Mu} {w : World} {a : Act} {_rd : Option Nat} {_dm' : List DItem} (hs : Sim G μ σ2 w) (hG : G ≤ σ2.next) (hl : G ≤ l) {bi : BI} (hb : μ l = some bi) (hx : σ2.get l = some (.loop st pe nt' ta' ps' as' bo' df')) (hst : (st == .busy) = false) (hex : leftBy pe = some ex)
    {Q : Exit → Act → World → Prop} (hQ : ∀ w', Stp G σ2 μ w (σ2.put l (.loop .exhausted pe nt' ta' ps' as' bo' df')) μ w' → Q ex a w') (vc : Value) : rangePost (FW rc) 0 P bi.blk Q a (.returned vc) w := by
  obtain ⟨fn, tc, di, h1, h2, dbi, h3, h4⟩ := hs.blk l _ bi hx hb
  have st := Stp.setObj (o := .loop ⟨.exhausted, pe, fn, tc, ps', as', bo', di⟩) (y := .loop .exhausted pe nt' ta' ps' as' bo' df') hs hG hl hx hb (fun w' hw => ⟨fn, tc, di, hw, h2, dbi, h3, h4⟩)
  refine ⟨pe, _, endLoop_run h1 hst, ?_⟩
  have := hQ _ st
  cases pe with
  | none => cases hex; exact this
  | some c =>
    cases c <;> simp only [leftBy] at hex <;> cases hex
    · exact wpIn_exit this
    · exact wpIn_ret this
theorem SCode.range {σ1 : Mem} (hg : oper2 ta g = .func (.func f) fa ca) (hgl : ∀ i, g ≠ .global i) (hgc : ∀ v, g ≠ .const v) (hp : plainFn P f = true) (h1 : σ1 = (σ.push (.defs true)).push (.loop .ready none nt ta ps assign body σ.next))
    (h : SCall G P f (fa ++ #[.func (.yield (σ.next + 1)) #[] #[]] ++ ca) σ1 v σ2) (hx : σ2.get (σ.next + 1) = some (.loop st pe nt' ta' ps' as' bo' df')) (hst : (st == .busy) = false) (hex : leftBy pe = some ex) :
    SCode G P none nt (.rangeFunc g ps assign body) ta dm σ ex ta (.mark σ.next :: dm) (σ2.put (σ.next + 1) (.loop .exhausted pe nt' ta' ps' as' bo' df')) := by
  have hn1 : σ1.next = σ.next + 2 := by rw [h1]; rfl
  have hle : σ.next + 2 ≤ σ2.next := by have := h.1; omega
  refine ⟨by show σ.next ≤ σ2.next; omega, fun μ w a rc hs hG hf ht hd hr Q hQ => wpIn_rangeFunc fun fn _ => ?_⟩
  obtain rfl : rc = none := by cases rc with | none => rfl | some r => exact hr.elim
  have hf' : ∀ b, σ.next ≤ b → b < σ2.next → μ b = none := hf
  have s1 := Stp.push (G := G) hs hG (hf' _ (Nat.le_refl _) (by omega)) (x := .defs true) (o := .deferred (some [])) rfl
  have hd1 : (μ.add σ.next ⟨w.heap.size, 0, 0, 0, 1⟩) σ.next = some ⟨w.heap.size, 0, 0, 0, 1⟩ := Mu.add_at _ _ _
  have ho2 : ObjRel (μ.add σ.next ⟨w.heap.size, 0, 0, 0, 1⟩) (.loop .ready none nt ta ps assign body σ.next) (.loop ⟨.ready, none, fn, a.tmps, ps, assign, body, w.heap.size⟩) := ⟨fn, a.tmps, w.heap.size, rfl, ht.ext s1.extE, _, hd1, rfl⟩
  have s2 := Stp.push (G := G) s1.sim (Nat.le_trans hG s1.next) (by rw [s1.ext _ (.inr (Nat.le_refl _))]; exact hf' _ (by simp [Mem.push]) (by simp [Mem.push]; omega)) ho2
  have s12 := s1.trans s2
  rw [← h1] at s12
  generalize hμ2 : (μ.add σ.next ⟨w.heap.size, 0, Blk2.len (.defs true), 0, 1⟩).add (σ.push (.defs true)).next ⟨(w.alloc (.deferred (some []))).heap.size, 0, Blk2.len (.loop .ready none nt ta ps assign body σ.next), 0, 1⟩ = μ2 at s12
  have hl : μ2 (σ.next + 1) = some ⟨w.heap.size + 1, 0, 0, 0, 1⟩ := by rw [← hμ2]; show (Mu.add _ (σ.next + 1) _) (σ.next + 1) = _; rw [Mu.add_at]; simp [Blk2.len]
  have hdm : μ2 σ.next = some ⟨w.heap.size, 0, 0, 0, 1⟩ := by rw [← hμ2]; simp [Mu.add, Mem.push, Blk2.len]
  have hgv : VRel μ2 (oper2 ta g) (a.eval g) := by
    cases g with
    | tmp t => exact (ht.2 t).ext s12.extE
    | const v => exact absurd rfl (hgc v)
    | global i => exact absurd rfl (hgl i)
    | func i => exact .func _ _ _ _ _ rfl rfl (by simp) rfl (by simp)
  rw [hg] at hgv
  obtain ⟨fa', ca', e, ha, hca⟩ := hgv.func_inv
  refine ⟨w.heap.size + 1, [{ target := .collected w.heap.size, args := #[] }], (w.alloc (.deferred (some []))).alloc (.loop ⟨.ready, none, fn, a.tmps, ps, assign, body, w.heap.size⟩), { target := .fn (.func f) ca', args := fa' ++ #[.func (.yield (w.heap.size + 1)) #[] #[]] }, (w.alloc (.deferred (some []))).alloc (.loop ⟨.ready, none, fn, a.tmps, ps, assign, body, w.heap.size⟩), f, fa' ++ #[.func (.yield (w.heap.size + 1)) #[] #[]] ++ ca', (w.alloc (.deferred (some []))).alloc (.loop ⟨.ready, none, fn, a.tmps, ps, assign, body, w.heap.size⟩), ?_, ?_, fun _ _ => trivial, invoke_func hp _ _ _, fun h => (by simp [Fence.wide] at h), ?_⟩
  · show (Instr.enterLoop fn a.tmps ps assign body none).run P w = _
    unfold Instr.enterLoop
    simp only [Sem.run_bind, run_newObj, Result.andThen_ok, Sem.run_pure]
    simp
    rfl
  · have := resolve_value (P := P) (ρ := a.eval) (c := rangeCall g (w.heap.size + 1)) (x := g) rfl e 0 ((w.alloc (.deferred (some []))).alloc (.loop ⟨.ready, none, fn, a.tmps, ps, assign, body, w.heap.size⟩))
    rw [this]
    simp [Act.eval]
  · refine (callsIn_wide.2 ((h.2 μ2 _ _ s12.sim (Nat.le_trans hG s12.next) (fun b h1 h2 => ?_) ((ha.append (ARel.one (.yld _ _ hl))).append hca)).mono ?_) : CallsIn Fence.wide 0 P f _ _ _)
    · rw [s12.ext b (.inr h1)]; exact hf' b (by omega) h2
    · rintro e w' ⟨vc, μ', rfl, s3, hv⟩
      have hl' : μ' (σ.next + 1) = some ⟨w.heap.size + 1, 0, 0, 0, 1⟩ := s3.extE _ _ hl
      refine range_post (_rd := none) (_dm' := []) s3.sim (Nat.le_trans (Nat.le_trans hG s12.next) s3.next) (Nat.le_trans hG (by omega)) hl' hx hst hex (fun w2 s4 => hQ _ w2 μ' ?_ (s12.trans (s3.trans s4)) ?_) vc
      · exact ⟨⟨_, s3.extE _ _ hdm, rfl⟩, hd.ext (s12.trans s3).extE⟩
      · exact ht.ext (s12.trans s3).extE
/-- A range over a function, within a round. -/
theorem SCode.range_in {σ1 : Mem} {l0 : Nat} {st0 : LoopState} {pe0 : Option Code} {nt0 : Nat} {ta0 : Nat → Value} {ps0 : Array Tmp} {as0 bo0 : Code} {df0 : Nat} (h0 : σ.get l0 = some (.loop st0 pe0 nt0 ta0 ps0 as0 bo0 df0)) (hg : oper2 ta g = .func (.func f) fa ca) (hgl : ∀ i, g ≠ .global i) (hgc : ∀ v, g ≠ .const v) (hp : plainFn P f = true) (h1 : σ1 = σ.push (.loop .ready none nt ta ps assign body df0))
    (h : SCall G P f (fa ++ #[.func (.yield σ.next) #[] #[]] ++ ca) σ1 v σ2) (hx : σ2.get σ.next = some (.loop st pe nt' ta' ps' as' bo' df')) (hst : (st == .busy) = false) (hex : leftBy pe = some ex) :
    SCode G P (some l0) nt (.rangeFunc g ps assign body) ta dm σ ex ta dm (σ2.put σ.next (.loop .exhausted pe nt' ta' ps' as' bo' df')) := by
  have hn1 : σ1.next = σ.next + 1 := by rw [h1]; rfl
  have hle : σ.next + 1 ≤ σ2.next := by have := h.1; omega
  refine ⟨by show σ.next ≤ σ2.next; omega, fun μ w a rc hs hG hf ht hd hr Q hQ => wpIn_rangeFunc fun fn _ => ?_⟩
  cases rc with
  | none => exact hr.elim
  | some c =>
  obtain ⟨bi0, hb0, rfl⟩ := hr
  obtain ⟨fn0, tc0, di0, hin0, _, dbi0, hdb0, rfl⟩ := hs.blk l0 _ bi0 h0 hb0
  have hf' : ∀ b, σ.next ≤ b → b < σ2.next → μ b = none := hf
  have ho2 : ObjRel μ (.loop .ready none nt ta ps assign body df0) (.loop ⟨.ready, none, fn, a.tmps, ps, assign, body, dbi0.blk⟩) := ⟨fn, a.tmps, dbi0.blk, rfl, ht, _, hdb0, rfl⟩
  have s12 := Stp.push (G := G) hs hG (hf' _ (Nat.le_refl _) (by omega)) ho2
  rw [← h1] at s12
  generalize hμ2 : μ.add σ.next ⟨w.heap.size, 0, Blk2.len (.loop .ready none nt ta ps assign body df0), 0, 1⟩ = μ2 at s12
  have hl : μ2 σ.next = some ⟨w.heap.size, 0, 0, 0, 1⟩ := by rw [← hμ2, Mu.add_at]; simp [Blk2.len]
  have hgv : VRel μ2 (oper2 ta g) (a.eval g) := by
    cases g with
    | tmp t => exact (ht.2 t).ext s12.extE
    | const v => exact absurd rfl (hgc v)
    | global i => exact absurd rfl (hgl i)
    | func i => exact .func _ _ _ _ _ rfl rfl (by simp) rfl (by simp)
  rw [hg] at hgv
  obtain ⟨fa', ca', e, ha, hca⟩ := hgv.func_inv
  refine ⟨w.heap.size, [], w.alloc (.loop ⟨.ready, none, fn, a.tmps, ps, assign, body, dbi0.blk⟩), { target := .fn (.func f) ca', args := fa' ++ #[.func (.yield w.heap.size) #[] #[]] }, w.alloc (.loop ⟨.ready, none, fn, a.tmps, ps, assign, body, dbi0.blk⟩), f, fa' ++ #[.func (.yield w.heap.size) #[] #[]] ++ ca', w.alloc (.loop ⟨.ready, none, fn, a.tmps, ps, assign, body, dbi0.blk⟩), ?_, ?_, fun _ _ => trivial, invoke_func hp _ _ _, fun h => (by simp [Fence.wide] at h), ?_⟩
  · show (Instr.enterLoop fn a.tmps ps assign body (some bi0.blk)).run P w = _
    unfold Instr.enterLoop Instr.getLoop
    simp only [Sem.run_bind, getObj_run hin0 (by simp), run_newObj, Result.andThen_ok, Sem.run_pure]
    rfl
  · have := resolve_value (P := P) (ρ := a.eval) (c := rangeCall g w.heap.size) (x := g) rfl e 0 (w.alloc (.loop ⟨.ready, none, fn, a.tmps, ps, assign, body, dbi0.blk⟩))
    rw [this]
    simp [Act.eval]
  · refine (callsIn_wide.2 ((h.2 μ2 _ _ s12.sim (Nat.le_trans hG s12.next) (fun b h1 h2 => ?_) ((ha.append (ARel.one (.yld _ _ hl))).append hca)).mono ?_) : CallsIn Fence.wide 0 P f _ _ _)
    · rw [s12.ext b (.inr h1)]; exact hf' b (by omega) h2
    · rintro e w' ⟨vc, μ', rfl, s3, hv⟩
      have hl' : μ' σ.next = some ⟨w.heap.size, 0, 0, 0, 1⟩ := s3.extE _ _ hl
      refine range_post (_rd := none) (_dm' := []) s3.sim (Nat.le_trans (Nat.le_trans hG s12.next) s3.next) hG hl' hx hst hex (fun w2 s4 => hQ _ w2 μ' ?_ (s12.trans (s3.trans s4)) ?_) vc
      · exact hd.ext (s12.trans s3).extE
      · exact ht.ext (s12.trans s3).extE
end
/-- The loop's variables are set. -/
def setPs (ta : Nat → Value) (ps : List Nat) (vs : List Value) : Nat → Value := (ps.zip vs).foldl (fun t (p, v) => upd t p v) ta
theorem TRel.setPs {μ : Mu} : ∀ (ps : List Nat) (vs vs' : List Value) (ta : Nat → Value) (tc : Array Value), TRel μ nt ta tc → vs.length = vs'.length → (∀ (i : Nat) v v', vs[i]? = some v → vs'[i]? = some v' → VRel μ v v') → (∀ p ∈ ps, p < nt) →
    TRel μ nt (setPs ta ps vs) ((ps.zip vs').foldl (fun t (p, v) => t.setIfInBounds p v) tc)
  | [], vs, vs', ta, tc, h, _, _, _ => by simpa [YtmlmnbcnfalaaaaDoor.setPs] using h
  | p :: ps, [], [], ta, tc, h, _, _, _ => by simpa [YtmlmnbcnfalaaaaDoor.setPs] using h
  | p :: ps, v :: vs, v' :: vs', ta, tc, h, hl, hv, hp => by
    have := TRel.setPs ps vs vs' (upd ta p v) (tc.setIfInBounds p v') (h.put (hp p (by simp)) (hv 0 v v' rfl rfl)) (by simpa using hl) (fun i x x' h1 h2 => hv (i + 1) x x' h1 h2) (fun q hq => hp q (by simp [hq]))
    simpa [YtmlmnbcnfalaaaaDoor.setPs] using this
  | p :: ps, [], _ :: _, _, _, _, hl, _, _ => by simp at hl
  | p :: ps, _ :: _, [], _, _, _, hl, _, _ => by simp at hl
theorem VRel.yield_inv {μ : Mu} {l : Nat} : ∀ {v' : Value}, VRel μ (.func (.yield l) #[] #[]) v' → ∃ bi, μ l = some bi ∧ v' = .func (.yield bi.blk) #[] #[]
  | _, .flat _ h => by simp [flatV] at h
  | _, .yld _ bi h => ⟨bi, h, rfl⟩
  | _, .func _ _ _ _ _ hf _ _ _ _ => by simp [isYield] at hf
/-- What a round hands back, and what is pending behind it. -/
def roundOut : Exit → Option (Bool × LoopState × Option Code)
  | .normal => some (true, .ready, none)
  | .ret => some (false, .done, some .ret)
  | .exit i => some (false, .done, some (.exit i))
  | _ => none
section
variable {o : Oper} {ρ : Operand → Value} {c : Call} {x : Operand} {l : Nat} {σ σ1 σ3 : Mem} {nt : Nat} {ta ta2 ta3 : Nat → Value} {ps : Array Tmp} {as bo : Code} {df : Nat} {pe : Option Code} {st : LoopState} {ex : Exit} {dm1 dm3 : List DItem}
  {nt1 : Nat} {ta1 : Nat → Value} {ps1 : Array Tmp} {as1 bo1 : Code} {df1 : Nat} {pe1 : Option Code} {st3 : LoopState} {nt3 : Nat} {ta4 : Nat → Value} {ps3 : Array Tmp} {as3 bo3 : Code} {df3 : Nat} {pe3 : Option Code} {b : Bool} {sn : LoopState} {pn : Option Code}
theorem endRound_run {w : World} {l : Nat} {L : Loop} (h : w.heap[l]? = some (.loop L)) (jump : Option Code) : (Instr.endRound l jump).run P w = .ok (.bool jump.isNone) { w with heap := w.heap.setIfInBounds l (.loop { L with state := if jump.isNone then .ready else .done, pending := jump }) } := by
  unfold Instr.endRound Instr.getLoop
  simp only [Sem.run_bind, getObj_run h (by simp), Result.andThen_ok, Sem.run_pure, setObj_run h (by simp)]
theorem beginRound_run {w : World} {l : Nat} {L : Loop} (h : w.heap[l]? = some (.loop L)) (hr : L.state = .ready) : (Instr.beginRound l).run P w = .ok () { w with heap := w.heap.setIfInBounds l (.loop { L with state := .busy }) } := by
  unfold Instr.beginRound Instr.getLoop
  simp only [Sem.run_bind, getObj_run h (by simp), Result.andThen_ok, Sem.run_pure, setObj_run h (by simp), hr]
theorem eop_yield (ho : o.op = .call c) (hc : c.callee = .value x) (hx : ρ x = .func (.yield l) #[] #[]) (hl : G ≤ l) (h0 : σ.get l = some (.loop st pe nt ta ps as bo df)) (hsz : c.args.size = ps.size) (hps : ∀ p ∈ ps.toList, p < nt)
    (h1 : SCode G P (some l) nt as (setPs ta ps.toList (c.args.toList.map ρ)) [] σ .normal ta2 dm1 σ1) (h2 : σ1.get l = some (.loop .ready pe1 nt1 ta1 ps1 as1 bo1 df1))
    (h3 : SCode G P (some l) nt bo ta2 dm1 (σ1.put l (.loop .busy pe1 nt1 ta1 ps1 as1 bo1 df1)) ex ta3 dm3 σ3) (h4 : σ3.get l = some (.loop st3 pe3 nt3 ta4 ps3 as3 bo3 df3)) (hout : roundOut ex = some (b, sn, pn)) :
    EOp G P o ρ σ (.bool b) (σ3.put l (.loop sn pn nt3 ta4 ps3 as3 bo3 df3)) := by
  have hle : σ1.next ≤ σ3.next := h3.1
  refine ⟨Nat.le_trans h1.1 hle, fun μ w a hs hG hf hor K Q k rd => ?_⟩
  rw [ho] at hor
  have hops : ∀ y, y = x ∨ y ∈ c.args → y ∈ (Op.call c).operands := fun y hy => by
    simp only [Op.operands, Call.operands, hc]
    rcases hy with rfl | hy <;> simp [*]
  have hx1 := hor x (hops x (.inl rfl))
  rw [hx] at hx1
  obtain ⟨bi, hbi, e⟩ := hx1.yield_inv
  have hargs := ARel.map fun y hy => hor y (hops y (.inr hy))
  obtain ⟨fn, tc, di, hin, htr, dbi, hdb, rfl⟩ := hs.blk l _ bi h0 hbi
  have htr1 : TRel μ nt (setPs ta ps.toList (c.args.toList.map ρ)) ((ps.toList.zip (c.args.toList.map a.eval)).foldl (fun t (p, v) => t.setIfInBounds p v) tc) :=
    TRel.setPs ps.toList _ _ ta tc htr (by simp) (fun i v v' g1 g2 => hargs.2 i v v' (by rw [← Array.getElem?_toList]; simpa using g1) (by rw [← Array.getElem?_toList]; simpa using g2)) hps
  have hf' : ∀ b, σ.next ≤ b → b < σ3.next → μ b = none := hf
  refine wp_of_round (l := bi.blk) (f := fn) (tmps := (ps.toList.zip (c.args.toList.map a.eval)).foldl (fun t (p, v) => t.setIfInBounds p v) tc) (assign := as) (body := bo) (w' := w) ?_ ?_
  · unfold execOp
    simp only [ho, Sem.run_bind, resolve_value hc e, Result.andThen_ok]
    simp only [invoke, Instr.yield, Instr.getLoop, Sem.run_bind, getObj_run hin (by simp), Result.andThen_ok, Sem.run_pure]
    simp only [Array.empty_append, Array.size_map, hsz, ne_eq, not_true_eq_false, if_false]
    simp only [Sem.run_pure]
    congr 2
    rw [← Array.foldl_toList]
    simp
  · refine roundIn_of_wpIn (F := Fence.wide) trivial ?_
    refine h1.2 μ w { tmps := (ps.toList.zip (c.args.toList.map a.eval)).foldl (fun t (p, v) => t.setIfInBounds p v) tc, defers := [] } (some bi.blk) hs hG (fun b g1 g2 => hf' b g1 (by omega)) htr1 trivial ⟨bi, hbi, rfl⟩ _ fun a1 w1 μ1 hd1 s1 ht1 => ?_
    have hbi1 := s1.extE _ _ hbi
    obtain ⟨fn1, tc1, di1, hin1, htr1', dbi1, hdb1, rfl⟩ := s1.sim.blk l _ bi h2 hbi1
    have s2 := Stp.setObj (o := .loop ⟨.busy, pe1, fn1, tc1, ps1, as1, bo1, dbi1.blk⟩) (y := .loop .busy pe1 nt1 ta1 ps1 as1 bo1 df1) s1.sim (Nat.le_trans hG s1.next) hl h2 hbi1 (fun w' hw => ⟨fn1, tc1, _, hw, htr1', dbi1, hdb1, rfl⟩)
    refine ⟨_, beginRound_run hin1 rfl, ?_⟩
    have s12 := s1.trans s2
    refine h3.2 μ1 _ a1 (some bi.blk) s2.sim (Nat.le_trans hG s1.next) (fun b g1 g2 => ?_) ht1 hd1 ⟨bi, hbi1, rfl⟩ _ fun a3 w3 μ3 hd3 s3 ht3 => ?_
    · rw [s12.ext b (.inr g1)]; exact hf' b (Nat.le_trans s12.next g1) g2
    have hbi3 := s3.extE _ _ hbi1
    obtain ⟨fn3, tc3, di3, hin3, htr3', dbi3, hdb3, rfl⟩ := s3.sim.blk l _ bi h4 hbi3
    have s4 := Stp.setObj (o := .loop ⟨sn, pn, fn3, tc3, ps3, as3, bo3, dbi3.blk⟩) (y := .loop sn pn nt3 ta4 ps3 as3 bo3 df3) s3.sim (Nat.le_trans (Nat.le_trans hG s12.next) s3.next) hl h4 hbi3 (fun w' hw => ⟨fn3, tc3, _, hw, htr3', dbi3, hdb3, rfl⟩)
    have hk := k (.bool b) _ μ3 ((s12.trans s3).trans s4) (.flat _ rfl)
    cases ex <;> simp only [roundOut] at hout <;> cases hout
    · exact ⟨_, _, endRound_run hin3 none, _, rfl, hk⟩
    · exact ⟨_, _, endRound_run hin3 (some (.exit _)), _, rfl, hk⟩
    · exact ⟨_, _, endRound_run hin3 (some .ret), _, rfl, hk⟩
end
end Go.Proofs.YtmlmnbcnfalaaaaDoor
