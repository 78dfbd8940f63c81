/-
  Code and calls carried out in the second memory, by a function; and that it is right. Over any program. Conditions: none.
-/
import Derived.Test.YthemeeiedlbhkaaGreatDoorSfr
namespace Go.Proofs.YthemeeiedlbhkaaGreatDoor
variable {P : Program} {G : Nat}

abbrev Out := Option (Exit × T Value × List DItem × EM)
/-- A function's temporaries at its start. -/
noncomputable def argTree (l : List Value) : T Value := (l.foldl (fun (x : T Value × Nat) v => (x.1.put (some v) x.2, x.2 + 1)) (T.nil, 0)).1
theorem argTree_get (l : List Value) : tmG (argTree l) = fun t => l.getD t undef := by
  have key : ∀ (l : List Value) (tr : T Value) (n : Nat) (t : Nat), tmG ((l.foldl (fun (x : T Value × Nat) v => (x.1.put (some v) x.2, x.2 + 1)) (tr, n)).1) t = if n ≤ t ∧ t < n + l.length then l.getD (t - n) undef else tmG tr t := by
    intro l
    induction l with
    | nil =>
      intro tr n t
      have : ¬ (n ≤ t ∧ t < n + ([] : List Value).length) := fun h => by have h1 := h.1; have h2 := h.2; rw [List.length_nil] at h2; omega
      rw [if_neg this]
      rfl
    | cons v l ih =>
      intro tr n t
      simp only [List.foldl_cons]
      rw [ih, tmG_put]
      unfold upd
      simp only [List.length_cons]
      rcases Nat.lt_trichotomy t n with h | h | h
      · rw [if_neg (by omega), if_neg (by omega), if_neg (by omega)]
      · rw [if_neg (by omega), if_pos h, if_pos (by omega)]; simp [h]
      · by_cases h2 : t < n + 1 + l.length
        · rw [if_pos (by omega), if_pos (by omega), show t - n = (t - (n + 1)) + 1 by omega]; simp
        · rw [if_neg (by omega), if_neg (by omega), if_neg (by omega)]
  funext t
  unfold argTree
  rw [key]
  by_cases h : t < l.length
  · rw [if_pos (by omega)]; simp
  · rw [if_neg (by omega)]
    rw [List.getD_eq_getElem?_getD, List.getElem?_eq_none (by omega)]
    rfl
/-- The results. -/
noncomputable def resL (P : Program) (ta : Nat → Value) (σ : Mem) : List ResultVar → Option (List Value)
  | [] => some []
  | .tmp t :: l => (match resL P ta σ l with | some vs => some (ta t :: vs) | none => none)
  | .cell a t :: l => (match ta a with
    | .pointer (some ⟨b, p, none⟩) => (match σ.get b, uT P t with
      | some (.row r), some d => (match (if isAggD d then sizeT P t else some 1) with
        | some n => if p + n ≤ r.cs.length then (match varF P t ((r.cs.drop p).take n), resL P ta σ l with | some v, some vs => some (v :: vs) | _, _ => none) else none
        | none => none)
      | _, _ => none)
    | _ => none)
def tupV : List Value → Value
  | [v] => v
  | l => .tuple l.toArray
def resF (tmps : Array Value) : ResultVar → Sem Value
  | .tmp t => pure (tmps.getD t undef)
  | .cell a t => do loadVar t (← asAddr (tmps.getD a undef))
theorem results_eq (fn : Func) (tmps : Array Value) : results fn tmps = (do let vs ← fn.results.mapM (resF tmps); pure (if h : vs.size = 1 then vs[0] else .tuple vs)) := by
  unfold results
  congr 1
theorem asAddr_run (a : Addr) (w : World) : (asAddr (.pointer (some a))).run P w = .ok a w := rfl
theorem resL_right {nt : Nat} {ta : Nat → Value} {σ : Mem} {μ : Mu} {w : World} {tmps : Array Value} (hs : Sim G μ σ w) (ht : TRel μ nt ta tmps) : ∀ (l : List ResultVar) (vs : List Value), resL P ta σ l = some vs →
    ∃ vs' : List Value, (l.mapM (resF tmps)).run P w = .ok vs' w ∧ vs'.length = vs.length ∧ ∀ (i : Nat) x x', vs[i]? = some x → vs'[i]? = some x' → VRel μ x x'
  | [], vs, h => by cases h; exact ⟨[], rfl, rfl, by simp⟩
  | .tmp t :: l, vs, h => by
    simp only [resL] at h
    split at h
    · rename_i vs0 h0
      cases h
      obtain ⟨vs', g1, g2, g3⟩ := resL_right hs ht l vs0 h0
      refine ⟨tmps.getD t undef :: vs', ?_, by simp [g2], fun i x x' h1 h2 => ?_⟩
      · simp only [List.mapM_cons, Sem.run_bind, resF, Sem.run_pure, Result.andThen_ok, g1]
      · cases i with
        | zero => simp at h1 h2; rw [← h1, ← h2]; simpa using ht.2 t
        | succ i => exact g3 i x x' (by simpa using h1) (by simpa using h2)
    · cases h
  | .cell a t :: l, vs, h => by
    simp only [resL] at h
    split at h
    · rename_i b p ha
      split at h
      · rename_i r d hr hd
        split at h
        · rename_i n hn
          split at h
          · rename_i hfit
            split at h
            · rename_i v vs0 hv h0
              cases h
              obtain ⟨vs', g1, g2, g3⟩ := resL_right hs ht l vs0 h0
              have hp := ht.2 a
              rw [ha] at hp
              obtain ⟨bi, hb, e⟩ := hp.ptr_inv
              have hcin : CellsIn w μ b p ((r.cs.drop p).take n) := CellsIn.of_row hs hb hr fun i v hv => by
                rw [List.getElem?_take] at hv
                split at hv
                · rw [List.getElem?_drop] at hv; exact hv
                · cases hv
              obtain ⟨bi', cs', hb', hl', hcell, hrel⟩ := cells_of hcin
              rw [hb] at hb'
              cases hb'
              obtain ⟨v', h2, h3⟩ := varF_rel hl' hrel hv
              refine ⟨v' :: vs', ?_, by simp [g2], fun i x x' h1 h2 => ?_⟩
              · simp only [List.mapM_cons, Sem.run_bind, resF, e, asAddr_run, Result.andThen_ok, loadVar_run h2 hcell rfl, g1]
                rfl
              · cases i with
                | zero => simp at h1 h2; rw [← h1, ← h2]; exact h3
                | succ i => exact g3 i x x' (by simpa using h1) (by simpa using h2)
            · cases h
          · cases h
        · cases h
      · cases h
    · cases h
theorem sres {nt : Nat} {ta : Nat → Value} {σ : Mem} {fn : Func} {vs : List Value} (h : resL P ta σ fn.results.toList = some vs) : SRes G P nt fn ta σ (tupV vs) := fun μ w tmps hs ht => by
  obtain ⟨vs', g1, g2, g3⟩ := resL_right hs ht fn.results.toList vs h
  refine ⟨tupV vs', ?_, ?_⟩
  · rw [results_eq, Array.mapM_eq_mapM_toList]
    simp only [Sem.run_bind, Sem.run_map]
    rw [g1]
    simp only [Result.andThen_ok, Sem.run_pure]
    congr 1
    match vs' with
    | [] => rfl
    | [x] => rfl
    | x :: y :: l => simp [tupV]
  · match vs, vs', g2 with
    | [], [], _ => exact VRel.undef μ
    | [x], [y], _ => exact g3 0 x y rfl rfl
    | x :: x2 :: l, y :: y2 :: m, hl => exact .tuple _ _ (by simpa using hl.symm) fun i v v' h1 h2 => g3 i v v' (by simpa using h1) (by simpa using h2)
/-- What waits is taken; 'dd' carries out deferred calls. -/
noncomputable def shutE (G : Nat) (dd : FuncId → Array Value → EM → Option EM) : List DItem → EM → Option EM
  | [], e => some e
  | .mark b :: bs, e => cond (Nat.ble G b) (match e.mem.get b with
    | some (.defs true) => shutE G dd bs (e.put b (.b (.defs false)))
    | _ => none) none
  | .call f as cs :: bs, e => (match dd f (as ++ cs) e with
    | some e1 => shutE G dd bs e1
    | none => none)
theorem shutE_right {dd : FuncId → Array Value → EM → Option EM} (hd : ∀ f args e e', dd f args e = some e' → plainFn P f = true ∧ SDCall G P f args e.mem e'.mem) : ∀ (dm : List DItem) (e e2 : EM), shutE G dd dm e = some e2 → Shut G P dm e.mem e2.mem
  | [], e, e2, h => by cases h; exact .nil _
  | .mark b :: bs, e, e2, h => by
    simp only [shutE] at h
    cases hb : Nat.ble G b with
    | false => rw [hb] at h; cases h
    | true =>
      rw [hb] at h
      simp only [cond_true] at h
      split at h
      · rename_i hg
        have h1 := shutE_right hd bs _ e2 h
        rw [EM.mem_put] at h1
        exact .mark hg (by simpa using hb) h1
      · cases h
  | .call f as cs :: bs, e, e2, h => by
    simp only [shutE] at h
    split at h
    · rename_i e1 hc
      obtain ⟨h1, h2⟩ := hd f _ e e1 hc
      exact .call (fun as cs w => invoke_func h1 cs as w) h2 (shutE_right hd bs e1 e2 h)
    · cases h
noncomputable def setPsE (tr : T Value) (ps : List Nat) (vs : List Value) : T Value := (ps.zip vs).foldl (fun t (x : Nat × Value) => t.put (some x.2) x.1) tr
theorem setPsE_tm (tr : T Value) : ∀ (ps : List Nat) (vs : List Value), tmG (setPsE tr ps vs) = setPs (tmG tr) ps vs := by
  have key : ∀ (l : List (Nat × Value)) (tr : T Value), tmG (l.foldl (fun t (x : Nat × Value) => t.put (some x.2) x.1) tr) = l.foldl (fun t (x : Nat × Value) => upd t x.1 x.2) (tmG tr) := by
    intro l
    induction l with
    | nil => intro tr; rfl
    | cons x l ih => intro tr; simp only [List.foldl_cons]; rw [ih, tmG_put]
  intro ps vs
  exact key _ tr
noncomputable def loopAt (e : EM) (l : Nat) : Option EBlk := cond (Nat.blt l e.next) (match e.m.get l with | some (.loop a b c d f g h i) => some (.loop a b c d f g h i) | _ => none) none
theorem loopAt_get {e : EM} {l : Nat} {a : LoopState} {b : Option Code} {c : Nat} {d : T Value} {f : Array Tmp} {g h : Code} {i : Nat} (hl : loopAt e l = some (.loop a b c d f g h i)) : e.mem.get l = some (.loop a b c (tmG d) f g h i) := by
  unfold loopAt at hl
  cases hb : Nat.blt l e.next with
  | false => rw [hb] at hl; cases hl
  | true =>
    rw [hb] at hl
    simp only [cond_true] at hl
    split at hl
    · rename_i hg
      cases hl
      have : l < e.next := by simpa [Nat.blt_eq] using hb
      unfold Mem.get EM.mem
      simp only [this, if_true, hg, toB]
    · cases hl
/-- So many rounds. -/
def outThen (k : T Value → List DItem → EM → Out) : Out → Out
  | some (.normal, tr1, dm1, e1) => k tr1 dm1 e1
  | r => r
noncomputable def loopE (body : T Value → List DItem → EM → Out) (n : Nat) : T Value → List DItem → EM → Out :=
  Nat.rec (motive := fun _ => T Value → List DItem → EM → Out) (fun _ _ _ => none) (fun _ ih tr dm e => outThen ih (body tr dm e)) n
theorem loopE_succ (body : T Value → List DItem → EM → Out) (k : Nat) (tr : T Value) (dm : List DItem) (e : EM) : loopE body (k + 1) tr dm e = outThen (loopE body k) (body tr dm e) := rfl
/-- Rounds of code of a lesser depth. -/
noncomputable def doYield (G : Nat) (code : Option Nat → Nat → Code → T Value → List DItem → EM → Out) (l : Nat) (args : List Value) (e : EM) : Option (Bool × EM) :=
  match loopAt e l with
  | some (.loop _ _ nt tr ps as bo _) => cond (Nat.ble G l && Nat.beq args.length ps.size && ps.toList.all fun p => Nat.blt p nt)
      (match code (some l) nt as (setPsE tr ps.toList args) [] e with
      | some (.normal, tr2, dm1, e1) => (match loopAt e1 l with
        | some (.loop .ready pe1 nt1 tr1 ps1 as1 bo1 df1) => (match code (some l) nt bo tr2 dm1 (e1.put l (.loop .busy pe1 nt1 tr1 ps1 as1 bo1 df1)) with
          | some (ex, _, _, e3) => (match roundOut ex, loopAt e3 l with
            | some (b, sn, pn), some (.loop _ _ nt3 tr3 ps3 as3 bo3 df3) => some (b, e3.put l (.loop sn pn nt3 tr3 ps3 as3 bo3 df3))
            | _, _ => none)
          | none => none)
        | _ => none)
      | _ => none) none
  | _ => none
def exOk : Exit → Bool | .normal => true | .ret => true | _ => false
/-- A region that begins with a call of recover, where there is nothing to recover. -/
noncomputable def recRun (D : Doer) (G : Nat) (P : Program) (nt : Nat) (ops : Array Oper) (e : EM) (tr : T Value) : Option (T Value × EM) :=
  match ops.toList with
  | o :: l => (match o.guard with
    | none => cond (isRec o) (match putDst nt tr .nilIface o.dst with
      | some tr1 => (match regRun D G P nt ops l tr1 e with
        | some (_, tr2, e2) => some (tr2, e2)
        | none => none)
      | none => none) none
    | some _ => none)
  | [] => none
abbrev DOut := Option (Exit × T Value × EM)
/-- The body of a deferred call. -/
noncomputable def doD (D : Doer) (G : Nat) (P : Program) (code : Option Nat → Nat → Code → T Value → List DItem → EM → Out) (nt : Nat) : Nat → Code → T Value → EM → DOut
  | 0, _, _, _ => none
  | k + 1, c, tr, e => (match c with
    | .seq x y => (match doD D G P code nt k x tr e with
      | some (.normal, tr1, e1) => doD D G P code nt k y tr1 e1
      | r => r)
    | .cond c x y => (match oper2 (tmG tr) c with
      | .bool b => cond b (doD D G P code nt k x tr e) (doD D G P code nt k y tr e)
      | _ => none)
    | .region id ops draw => cond (!draw && ops.toList.any isRec) (match recRun D G P nt ops e tr with
      | some (tr1, e1) => some (.normal, tr1, e1)
      | none => none) (match code none nt (.region id ops draw) tr [] e with
      | some (ex, tr', [], e') => some (ex, tr', e')
      | _ => none)
    | c => (match code none nt c tr [] e with
      | some (ex, tr', [], e') => some (ex, tr', e')
      | _ => none))
noncomputable def doDef (D : Doer) (G : Nat) (P : Program) (code : Option Nat → Nat → Code → T Value → List DItem → EM → Out) (f : FuncId) (args : Array Value) (e : EM) : Option EM :=
  match fT P f with
  | some fn => (match fn.body with
    | some c => cond (plainFn P f) (match force (args.size + (fn.ntmps - args.size)) (fun nt => doD D G P code nt 100 c (argTree args.toList) e) with
      | some (ex, tr', e') => cond (exOk ex) (match resL P (tmG tr') e'.mem fn.results.toList with
        | some _ => some e'
        | none => none) none
      | none => none) none
    | none => none)
  | none => none
/-- The value of a panic that nothing has recovered, if it has no address. -/
def panV : List PanicEntry → Option Value
  | [⟨v, false, false⟩] => cond (closedV 3 v) (some v) none
  | _ => none
theorem panV_eq {ch : List PanicEntry} {v : Value} (h : panV ch = some v) : ch = panC v ∧ closedV 3 v = true := by
  unfold panV at h
  split at h
  · rename_i u
    cases hc : closedV 3 u with
    | false => rw [hc] at h; cases h
    | true => rw [hc] at h; cases h; exact ⟨rfl, hc⟩
  · cases h
/-- The body of a deferred call, as far as the call of recover, and behind it. -/
noncomputable def doDP (D : Doer) (G : Nat) (P : Program) (code : Option Nat → Nat → Code → T Value → List DItem → EM → Out) (nt : Nat) (v : Value) : Nat → Code → T Value → EM → DOut
  | 0, _, _, _ => none
  | k + 1, c, tr, e => (match c with
    | .seq x y => (match doDP D G P code nt v k x tr e with
      | some (.normal, tr1, e1) => doD D G P code nt k y tr1 e1
      | some r => some r
      | none => (match code none nt x tr [] e with
        | some (.normal, tr1, [], e1) => doDP D G P code nt v k y tr1 e1
        | _ => none))
    | .cond c x y => (match oper2 (tmG tr) c with
      | .bool b => cond b (doDP D G P code nt v k x tr e) (doDP D G P code nt v k y tr e)
      | _ => none)
    | .region _ ops draw => cond (!draw && ops.toList.any isRec) (match recRunP D G P nt ops v e tr with
      | some (tr1, e1) => some (.normal, tr1, e1)
      | none => none) none
    | _ => none)
noncomputable def doDefP (D : Doer) (G : Nat) (P : Program) (code : Option Nat → Nat → Code → T Value → List DItem → EM → Out) (v : Value) (f : FuncId) (args : Array Value) (e : EM) : Option EM :=
  match fT P f with
  | some fn => (match fn.body with
    | some c => cond (plainFn P f) (match force (args.size + (fn.ntmps - args.size)) (fun nt => doDP D G P code nt v 100 c (argTree args.toList) e) with
      | some (ex, tr', e') => cond (exOk ex) (match resL P (tmG tr') e'.mem fn.results.toList with
        | some _ => some e'
        | none => none) none
      | none => none) none
    | none => none)
  | none => none
/-- What waits is taken behind a panic. -/
noncomputable def shutPE (G : Nat) (dd ddp : FuncId → Array Value → EM → Option EM) : List DItem → EM → Option EM
  | [], _ => none
  | .mark b :: bs, e => cond (Nat.ble G b) (match e.mem.get b with
    | some (.defs true) => shutPE G dd ddp bs (e.put b (.b (.defs false)))
    | _ => none) none
  | .call f as cs :: bs, e => (match ddp f (as ++ cs) e with
    | some e1 => shutE G dd bs e1
    | none => none)
/-- A function that panics within, and recovers. -/
noncomputable def doRec (D : Doer) (G : Nat) (P : Program) (code : Option Nat → Nat → Code → T Value → List DItem → EM → Out) (fn : Func) (tr' : T Value) (dm' : List DItem) (e' : EM) : Exit → Option (Value × EM)
  | .panic ch => (match panV ch with
    | some v => (match shutPE G (doDef D G P code) (doDefP D G P code v) dm' e' with
      | some e2 => (match resL P (tmG tr') e2.mem fn.results.toList with
        | some vs => some (tupV vs, e2)
        | none => none)
      | none => none)
    | none => none)
  | _ => none
noncomputable def doCall0 (D : Doer) (G : Nat) (P : Program) (code : Option Nat → Nat → Code → T Value → List DItem → EM → Out) (f : FuncId) (args : Array Value) (e : EM) : Option (Value × EM) :=
  match fT P f with
  | some fn => (match fn.body with
    | some c => (match force (args.size + (fn.ntmps - args.size)) (fun nt => code none nt c (argTree args.toList) [] e) with
      | some (ex, tr', dm', e') => cond (exOk ex)
          (match shutE G (doDef D G P code) dm' e' with
          | some e2 => (match resL P (tmG tr') e2.mem fn.results.toList with
            | some vs => some (tupV vs, e2)
            | none => none)
          | none => none) (doRec D G P code fn tr' dm' e' ex)
      | none => none)
    | none => none)
  | none => none
/-- A function that panics. -/
noncomputable def doPan (_G : Nat) (P : Program) (code : Option Nat → Nat → Code → T Value → List DItem → EM → Out) (f : FuncId) (args : Array Value) (e : EM) : Option (Value × EM) :=
  match fT P f with
  | some fn => (match fn.body with
    | some c => (match force (args.size + (fn.ntmps - args.size)) (fun nt => code none nt c (argTree args.toList) [] e) with
      | some (.panic ch, _, [], e') => (match panV ch with
        | some v => some (v, e')
        | none => none)
      | _ => none)
    | none => none)
  | none => none
/-- Calls and rounds do not go. -/
def noDoer : Doer := ⟨fun _ _ _ => none, fun _ _ _ => none, []⟩
theorem noDoer_right : noDoer.Right G P := ⟨fun _ _ _ _ _ h => (by cases h), fun _ _ _ _ _ _ _ _ _ _ _ h => (by cases h), fun _ h => by cases h⟩
noncomputable def doCall (G : Nat) (P : Program) (code : Option Nat → Nat → Code → T Value → List DItem → EM → Out) (f : FuncId) (args : Array Value) (e : EM) : Option (Value × EM) := doCall0 noDoer G P code f args e
noncomputable def doRange (_G : Nat) (P : Program) (call : FuncId → Array Value → EM → Option (Value × EM)) (rd : Option Nat) (nt : Nat) (g : Operand) (ps : Array Tmp) (as bo : Code) (tr : T Value) (dm : List DItem) (e : EM) : Out :=
  match g with
  | .const _ => none
  | .global _ => none
  | g => (match oper2 (tmG tr) g with
    | .func (.func f) fa ca => cond (plainFn P f) (match rd with
      | none => (match call f (fa ++ #[.func (.yield (e.next + 1)) #[] #[]] ++ ca) ((e.push (.b (.defs true))).push (.loop .ready none nt tr ps as bo e.next)) with
        | some (_, e2) => (match loopAt e2 (e.next + 1) with
          | some (.loop st pe nt' tr' ps' as' bo' df') => (match st == .busy, leftBy pe with
            | false, some ex => some (ex, tr, .mark e.next :: dm, e2.put (e.next + 1) (.loop .exhausted pe nt' tr' ps' as' bo' df'))
            | _, _ => none)
          | _ => none)
        | none => none)
      | some l0 => (match loopAt e l0 with
        | some (.loop _ _ _ _ _ _ _ df0) => (match call f (fa ++ #[.func (.yield e.next) #[] #[]] ++ ca) (e.push (.loop .ready none nt tr ps as bo df0)) with
          | some (_, e2) => (match loopAt e2 e.next with
            | some (.loop st pe nt' tr' ps' as' bo' df') => (match st == .busy, leftBy pe with
              | false, some ex => some (ex, tr, dm, e2.put e.next (.loop .exhausted pe nt' tr' ps' as' bo' df'))
              | _, _ => none)
            | _ => none)
          | none => none)
        | _ => none)) none
    | _ => none)
noncomputable def doRegion (D : Doer) (G : Nat) (P : Program) (nt : Nat) (ops : Array Oper) (draw : Bool) (tr : T Value) (dm : List DItem) (e : EM) : Out :=
  match regRun D G P nt ops ops.toList tr e with
  | some (rs, tr2, e2) => cond draw
      (force (effMask rs 0) fun em => cond (P.follows .mixedOrders && Nat.ble G e.next && chkText G nt ops (masks ops.toList []) && chkEff (masks ops.toList []) em ops.size && chkDyn (masks ops.toList []) em ops.size (stagesE rs 0 ops.size e2) rs 0) (some (.normal, tr2, dm, e2)) none)
      (some (.normal, tr2, dm, e2))
  | none => none
/-- A region that ends with a defer. -/
def splitD (ops : Array Oper) : Option (List Oper × Oper) := match ops.toList.reverse with
  | o :: l => (match o.op with
    | .defer _ => some (l.reverse, o)
    | _ => none)
  | [] => none
def deferOf (_P : Program) (o : Oper) (ρ : Operand → Value) : Option DItem := match o.op with
  | .defer c => (match c.callee with
    | .value x => (match ρ x with
      | .func (.func f) fa ca => some (.call f (fa ++ c.args.map ρ) ca)
      | _ => none)
    | _ => none)
  | _ => none
noncomputable def doDefer (D : Doer) (G : Nat) (P : Program) (nt : Nat) (ops : Array Oper) (tr : T Value) (dm : List DItem) (e : EM) (l : List Oper) (o : Oper) : Out :=
  match regRun D G P nt ops l tr e with
  | some (_, tr2, e2) => (match o.guard, o.dst, deferOf P o (oper2 (tmG tr2)) with
    | none, none, some it => cond (opndOk G o) (some (.normal, tr2, it :: dm, e2)) none
    | _, _, _ => none)
  | none => none
noncomputable def doRegionD (D : Doer) (G : Nat) (P : Program) (rd : Option Nat) (nt : Nat) (ops : Array Oper) (draw : Bool) (tr : T Value) (dm : List DItem) (e : EM) : Out :=
  match splitD ops with
  | none => doRegion D G P nt ops draw tr dm e
  | some (l, o) => cond draw none (match rd with
    | none => doDefer D G P nt ops tr dm e l o
    | some _ => none)
/-- A region that panics. -/
noncomputable def panRegion (D : Doer) (G : Nat) (P : Program) (code : Option Nat → Nat → Code → T Value → List DItem → EM → Out) (nt : Nat) (ops : Array Oper) (draw : Bool) (tr : T Value) (dm : List DItem) (e : EM) : Out :=
  cond draw none (match panRun D (doPan G P code) G P nt ops ops.toList tr e with
    | some (v, tr2, e2) => some (.panic (panC v), tr2, dm, e2)
    | none => none)
def outReg (y : Out) : Out → Out
  | some r => some r
  | none => y
def outCond (x y : Out) : Value → Out
  | .bool b => cond b x y
  | _ => none
def outBlk (id : Nat) : Out → Out
  | some (ex, r) => some (outOf id ex, r)
  | none => none
def outScp : Out → Out
  | some (ex, r) => cond (notGoto ex) (some (ex, r)) none
  | none => none
/-- Functions of which it is known that they answer true, if these rows lie there. -/
structure Kn where
  calls : List (Nat × List Value × Value)
  rows : List (Nat × List Value)
  same : List Nat
  trans : List Tr := []
noncomputable def rowsOk (rows : List (Nat × List Value)) (e : EM) : Bool := allR (fun x => match e.mem.get x.1 with | some (.row r) => eqL r.cs x.2 | _ => false) rows
noncomputable def findK (f : Nat) (args : List Value) (l : List (Nat × List Value × Value)) : Option Value := List.rec (motive := fun _ => Option Value) none (fun x _ ih => cond (Nat.beq f x.1) (cond (eqL args x.2.1) (some x.2.2) ih) ih) l
theorem findK_mem {f : Nat} {args : List Value} {v : Value} : ∀ {l : List (Nat × List Value × Value)}, findK f args l = some v → (f, args, v) ∈ l
  | [], h => by cases h
  | x :: l, h => by
    have e : findK f args (x :: l) = cond (Nat.beq f x.1) (cond (eqL args x.2.1) (some x.2.2) (findK f args l)) (findK f args l) := rfl
    rw [e] at h
    cases h1 : Nat.beq f x.1 with
    | false => rw [h1] at h; exact List.mem_cons_of_mem _ (findK_mem h)
    | true =>
      rw [h1] at h
      cases h2 : eqL args x.2.1 with
      | false => rw [h2] at h; exact List.mem_cons_of_mem _ (findK_mem h)
      | true =>
        rw [h2] at h
        simp only [cond_true, Option.some.injEq] at h
        have h3 := eqL_eq _ _ h2
        have h4 := Nat.eq_of_beq_eq_true h1
        obtain ⟨a, b, c⟩ := x
        simp only at h h3 h4
        rw [h4, h3, h]
        exact List.mem_cons_self
noncomputable def kOut (K : Kn) (e : EM) (r : Option (Value × EM)) : Option Value → Option (Value × EM)
  | some v => cond (rowsOk K.rows e) (some (v, e)) none
  | none => r
/-- The step that is known of a call. -/
noncomputable def findT (f : Nat) (args : List Value) (e : EM) (l : List Tr) : Option Tr := List.rec (motive := fun _ => Option Tr) none (fun x _ ih => cond (Nat.beq f x.f) (cond (Nat.beq e.next x.n0) (cond (eqL args x.args) (cond (x.fits e) (some x) ih) ih) ih) ih) l
theorem findT_mem {f : Nat} {args : List Value} {e : EM} {t : Tr} : ∀ {l : List Tr}, findT f args e l = some t → t ∈ l ∧ f = t.f ∧ args = t.args ∧ t.fits e = true
  | [], h => by cases h
  | x :: l, h => by
    have e0 : findT f args e (x :: l) = cond (Nat.beq f x.f) (cond (Nat.beq e.next x.n0) (cond (eqL args x.args) (cond (x.fits e) (some x) (findT f args e l)) (findT f args e l)) (findT f args e l)) (findT f args e l) := rfl
    rw [e0] at h
    have rest : findT f args e l = some t → t ∈ x :: l ∧ f = t.f ∧ args = t.args ∧ t.fits e = true := fun h => by
      obtain ⟨h1, h2⟩ := findT_mem h
      exact ⟨List.mem_cons_of_mem _ h1, h2⟩
    cases h1 : Nat.beq f x.f with
    | false => rw [h1] at h; exact rest h
    | true =>
      cases h2 : Nat.beq e.next x.n0 with
      | false => rw [h1, h2] at h; exact rest h
      | true =>
        cases h3 : eqL args x.args with
        | false => rw [h1, h2, h3] at h; exact rest h
        | true =>
          cases h4 : x.fits e with
          | false => rw [h1, h2, h3, h4] at h; exact rest h
          | true =>
            rw [h1, h2, h3, h4] at h
            cases h
            exact ⟨List.mem_cons_self, Nat.eq_of_beq_eq_true h1, eqL_eq _ _ h3, h4⟩
noncomputable def tOut (e : EM) (r : Option (Value × EM)) : Option Tr → Option (Value × EM)
  | some t => some (t.v, t.app e)
  | none => r
noncomputable def callK (K : Kn) (call : FuncId → Array Value → EM → Option (Value × EM)) (f : FuncId) (args : Array Value) (e : EM) : Option (Value × EM) :=
  kOut K e (tOut e (call f args e) (findT f args.toList e K.trans)) (findK f args.toList K.calls)
def RowsAt (rows : List (Nat × List Value)) (σ : Mem) : Prop := ∀ g cs, (g, cs) ∈ rows → ∃ t b, σ.get g = some (.row ⟨cs, t, b⟩)
def Kn.Right (K : Kn) (G : Nat) (P : Program) : Prop := (∀ f args v, (f, args, v) ∈ K.calls → ∀ σ, RowsAt K.rows σ → SCall G P f args.toArray σ v σ) ∧ (∀ f, hasF f K.same = true → SameFn P f) ∧ ∀ t ∈ K.trans, t.Right G P
theorem rowsOk_at {rows : List (Nat × List Value)} {e : EM} (h : rowsOk rows e = true) : RowsAt rows e.mem := fun g cs hm => by
  unfold rowsOk at h
  rw [allR_eq] at h
  have := List.all_eq_true.1 h _ hm
  split at this
  · rename_i r hr
    have hc : r.cs = cs := eqL_eq _ _ this
    subst hc
    exact ⟨r.t, r.g, hr⟩
  · cases this
theorem callK_right {K : Kn} (hK : K.Right G P) {call : FuncId → Array Value → EM → Option (Value × EM)} (h : ∀ f args e v e', call f args e = some (v, e') → SCall G P f args e.mem v e'.mem) {f : FuncId} {args : Array Value} {e e' : EM} {v : Value} (hc : callK K call f args e = some (v, e')) : SCall G P f args e.mem v e'.mem := by
  unfold callK at hc
  cases hf : findK f args.toList K.calls with
  | none =>
    rw [hf] at hc
    replace hc : tOut e (call f args e) (findT f args.toList e K.trans) = some (v, e') := hc
    cases ht : findT f args.toList e K.trans with
    | none => rw [ht] at hc; exact h _ _ _ _ _ hc
    | some t =>
      rw [ht] at hc
      cases hc
      obtain ⟨h1, rfl, h3, h4⟩ := findT_mem ht
      have := Tr.call (hK.2.2 t h1) h4
      rw [← h3] at this
      simpa using this
  | some u =>
    rw [hf] at hc
    unfold kOut at hc
    cases h3 : rowsOk K.rows e with
    | false => rw [h3] at hc; cases hc
    | true =>
      rw [h3] at hc
      cases hc
      have := hK.1 f args.toList v (findK_mem hf) _ (rowsOk_at h3)
      simpa using this
abbrev CodeF := Option Nat → Nat → Code → T Value → List DItem → EM → Out
structure EvP where
  code : CodeF
  doer : Doer
noncomputable def evD (G : Nat) (P : Program) (K : Kn) (p : EvP) : Doer := ⟨callK K (doCall0 p.doer G P p.code), doYield G p.code, K.same⟩
noncomputable def evStep (G : Nat) (P : Program) (K : Kn) (n : Nat) (p : EvP) (rd : Option Nat) (nt : Nat) (c : Code) (tr : T Value) (dm : List DItem) (e : EM) : Out :=
  match c with
  | .skip => some (.normal, tr, dm, e)
  | .label _ => some (.normal, tr, dm, e)
  | .exit id => some (.exit id, tr, dm, e)
  | .ret => some (.ret, tr, dm, e)
  | .seq x y => outThen (p.code rd nt y) (p.code rd nt x tr dm e)
  | .cond c x y => outCond (p.code rd nt x tr dm e) (p.code rd nt y tr dm e) (oper2 (tmG tr) c)
  | .block id c => outBlk id (p.code rd nt c tr dm e)
  | .loop c => loopE (p.code rd nt c) n tr dm e
  | .scope c => outScp (p.code rd nt c tr dm e)
  | .region _ ops draw => outReg (panRegion (evD G P K p) G P p.code nt ops draw tr dm e) (doRegionD (evD G P K p) G P rd nt ops draw tr dm e)
  | .rangeFunc g ps as bo => doRange G P (doCall0 p.doer G P p.code) rd nt g ps as bo tr dm e
  | _ => none
noncomputable def evP (G : Nat) (P : Program) (K : Kn) (n : Nat) : EvP :=
  Nat.rec (motive := fun _ => EvP) ⟨fun _ _ _ _ _ _ => none, noDoer⟩ (fun n p => ⟨fun rd nt c tr dm e => evStep G P K n p rd nt c tr dm e, evD G P K p⟩) n
noncomputable def ev (G : Nat) (P : Program) (K : Kn) (n : Nat) : CodeF := (evP G P K n).code
theorem ev_succ (G : Nat) (P : Program) (K : Kn) (n : Nat) (rd : Option Nat) (nt : Nat) (c : Code) (tr : T Value) (dm : List DItem) (e : EM) : ev G P K (n + 1) rd nt c tr dm e = evStep G P K n (evP G P K n) rd nt c tr dm e := rfl
/-- What code of a depth does is right. -/
def CodeRight (G : Nat) (P : Program) (code : Option Nat → Nat → Code → T Value → List DItem → EM → Out) : Prop :=
  ∀ rd nt c tr dm e ex tr' dm' e', code rd nt c tr dm e = some (ex, tr', dm', e') → SCode G P rd nt c (tmG tr) dm e.mem ex (tmG tr') dm' e'.mem
theorem SDCode.of {nt : Nat} {c : Code} {ta ta' : Nat → Value} {σ σ' : Mem} {ex : Exit} (h : SCode G P none nt c ta [] σ ex ta' [] σ') : SDCode G P nt c ta σ ex ta' σ' :=
  ⟨h.1, fun μ w a cs hs hG hf ht hd _ Q hQ => wpSIn_of_wpIn rfl (h.2 μ w a none hs hG hf ht (by rw [hd]; trivial) trivial _ fun a' w' μ' hd' hst htr => hQ a' w' μ' (by
    cases hdd : a'.defers with
    | nil => rfl
    | cons d ds => rw [hdd] at hd'; exact hd'.elim) hst htr)⟩
theorem SDCode.seq {nt : Nat} {x y : Code} {ta ta1 ta2 : Nat → Value} {σ σ1 σ2 : Mem} {ex : Exit} (h : SDCode G P nt x ta σ .normal ta1 σ1) (k : SDCode G P nt y ta1 σ1 ex ta2 σ2) : SDCode G P nt (.seq x y) ta σ ex ta2 σ2 :=
  ⟨Nat.le_trans h.1 k.1, fun μ w a cs hs hG hf ht hd hr Q hQ => wpSIn_seq (h.2 μ w a cs hs hG (hf.left k.1) ht hd hr _ fun a1 w1 μ1 hd1 hst htr =>
    k.2 μ1 w1 a1 cs hst.sim (Nat.le_trans hG hst.next) (hf.right hst) htr hd1 hr Q fun a2 w2 μ2 hd2 hst2 htr2 => hQ a2 w2 μ2 hd2 (hst.trans hst2) htr2)⟩
theorem SDCode.seq_out {nt : Nat} {x y : Code} {ta ta1 : Nat → Value} {σ σ1 : Mem} {ex : Exit} (h : SDCode G P nt x ta σ ex ta1 σ1) (hx : ex ≠ .normal) : SDCode G P nt (.seq x y) ta σ ex ta1 σ1 :=
  ⟨h.1, fun μ w a cs hs hG hf ht hd hr Q hQ => wpSIn_seq (h.2 μ w a cs hs hG hf ht hd hr _ fun a1 w1 μ1 hd1 hst htr => by
    have := hQ a1 w1 μ1 hd1 hst htr
    cases ex <;> first | exact absurd rfl hx | exact this)⟩
theorem SDCode.cond {nt : Nat} {x y : Code} {c : Operand} {ta ta1 : Nat → Value} {σ σ1 : Mem} {ex : Exit} {b : Bool} (hc : oper2 ta c = .bool b) (h : SDCode G P nt (if b then x else y) ta σ ex ta1 σ1) : SDCode G P nt (.cond c x y) ta σ ex ta1 σ1 :=
  ⟨h.1, fun μ w a cs hs hG hf ht hd hr Q hQ => wpSIn_cond (t := b) (by
    cases c with
    | tmp t => exact ((ht.2 t).bool_iff b).2 hc
    | const v => exact hc
    | global g => cases hc
    | func f => cases hc) (h.2 μ w a cs hs hG hf ht hd hr Q hQ)⟩
theorem wpSIn_recFirst {F : Fence} {n id : Nat} {ops : Array Oper} {Q : Exit → Act → List Frame → World → Prop} {a : Act} {cs : List Frame} {w : World} {o : Oper} (hfr : F.round = none) (ho : ops[0]? = some o) (hgd : o.guard = none) (hrun : (execOp a.eval o).run P w = .ok .recover w) (hab : ∀ f, o.about P w a.eval = some f → F.fn f) (hrec : recoverD cs = none)
    (h : wpOpsIn F n P ops (fun e a' w' => Q e a' cs w') (List.range' 1 (ops.size - 1)) (a.put o.dst .nilIface) w) : (Code.region id ops false).wpSIn F n P Q a cs w := by
  intro b k hb hro hF hroom
  obtain ⟨e, a', w', hq, harr⟩ := wp_opsIn _ _ w h b k cs (hro.trans hfr.symm) hF hroom
  have hsz : 0 < ops.size := (Array.getElem?_eq_some_iff.1 ho).1
  have hrange : List.range ops.size = 0 :: List.range' 1 (ops.size - 1) := by
    rw [List.range_eq_range']
    obtain ⟨m, hm⟩ : ∃ m, ops.size = m + 1 := ⟨ops.size - 1, by omega⟩
    rw [hm, List.range'_succ]
    simp
  have hw : Region.wanted o (yielded ops a.tmps) = true := by unfold Region.wanted; rw [hgd]
  have h0 : (lone (b.atR a (.inRegion ops (0 :: List.range' 1 (ops.size - 1)) :: k)) cs w).fenced P F := fenced_oper hF hroom ho hab
  have hg := stepGR_op (P := P) (b := b) (k := k) (cs := cs) (w := w) (rest := List.range' 1 (ops.size - 1)) ho hw
  rw [hro, Oper.semAt_none] at hg
  have hfin : ∀ v, (b.atR a (.inRegion ops (0 :: List.range' 1 (ops.size - 1)) :: k)).finish v = b.atR (a.put o.dst v) (.inRegion ops (List.range' 1 (ops.size - 1)) :: k) := by
    intro v; rw [Frame.finish_atR, ho]; rfl
  have hk : (b.atR a (.inRegion ops (0 :: List.range' 1 (ops.size - 1)) :: k)).kind = .deferred := hb
  have htr := tryRecover_deferred hk cs
  refine ⟨e, a', cs, w', rfl, hq, .of_steps (.one (fenced_calm hF hroom rfl) stepR_region) ?_⟩
  rw [hrange]
  refine .of_steps (.one h0 (step_lone_go ?_)) harr
  rw [hg, ← hfin]
  simp only [Frame.atR, hro] at htr ⊢
  simp [stepG.apply, hrun, htr, hrec]
theorem recRun_right {D : Doer} (hD : D.Right G P) {nt id : Nat} {ops : Array Oper} {e e2 : EM} {tr tr2 : T Value} (h : recRun D G P nt ops e tr = some (tr2, e2)) : SDCode G P nt (.region id ops false) (tmG tr) e.mem .normal (tmG tr2) e2.mem := by
  unfold recRun at h
  split at h
  · rename_i o l hops
    split at h
    · rename_i hg
      cases hrec : isRec o with
      | false => rw [hrec] at h; cases h
      | true =>
        rw [hrec] at h
        simp only [cond_true] at h
        split at h
        · rename_i tr1 hp
          split at h
          · rename_i rs tr2' e2' hrun
            cases h
            have hdrop : ops.toList.drop 1 = l := by rw [hops]; rfl
            have ho : ops[0]? = some o := by rw [← Array.getElem?_toList, hops]; rfl
            have hl : ops.size - 1 = l.length := by rw [← Array.length_toList, hops]; simp
            refine ⟨(regRun_text (nt := nt) (rc := none) hD (ops := ops) l 1 tr1 e rs tr2 e2 hdrop hrun).1, fun μ w a cs hs hG hf ht hd hr Q hQ => ?_⟩
            have hrun' := isRec_run (P := P) hrec a w
            refine wpSIn_recFirst rfl ho hg hrun' (fun _ _ => trivial) hr ?_
            rw [hl]
            refine (regRun_text (nt := nt) (rc := none) hD (ops := ops) l 1 tr1 e rs tr2 e2 hdrop hrun).2 μ w _ hs hG hf (putDst_rel hp ht (.flat _ rfl)) _ fun a' w' μ' he hst htr => hQ a' w' μ' ?_ hst htr
            rw [he]
            cases o.dst <;> exact hd
          · cases h
        · cases h
    · cases h
  · cases h
theorem doD_right {D : Doer} (hD : D.Right G P) {code : Option Nat → Nat → Code → T Value → List DItem → EM → Out} (h : CodeRight G P code) {nt : Nat} : ∀ (k : Nat) (c : Code) (tr tr' : T Value) (e e' : EM) (ex : Exit), doD D G P code nt k c tr e = some (ex, tr', e') → SDCode G P nt c (tmG tr) e.mem ex (tmG tr') e'.mem
  | 0, _, _, _, _, _, _, hk => by cases hk
  | k + 1, c, tr, tr', e, e', ex, hk => by
    have base : ∀ c : Code, (match code none nt c tr [] e with
      | some (ex, tr', [], e') => some (ex, tr', e')
      | _ => none) = some (ex, tr', e') → SDCode G P nt c (tmG tr) e.mem ex (tmG tr') e'.mem := fun c hc => by
      split at hc
      · rename_i hcode; cases hc; exact SDCode.of (h _ _ _ _ _ _ _ _ _ _ hcode)
      · cases hc
    simp only [doD] at hk
    split at hk
    · rename_i x y
      split at hk
      · rename_i tr1 e1 hx
        exact (doD_right hD h k x tr tr1 e e1 .normal hx).seq (doD_right hD h k y tr1 tr' e1 e' ex hk)
      · rename_i hne
        refine (doD_right hD h k x tr tr' e e' ex hk).seq_out fun he => ?_
        subst he
        exact hne _ _ hk
    · rename_i c x y
      split at hk
      · rename_i b hb
        refine SDCode.cond hb ?_
        cases b with
        | true => exact doD_right hD h k x tr tr' e e' ex hk
        | false => exact doD_right hD h k y tr tr' e e' ex hk
      · cases hk
    · rename_i id ops draw
      cases hd : (!draw && ops.toList.any isRec) with
      | false => rw [hd] at hk; exact base _ hk
      | true =>
        rw [hd] at hk
        simp only [cond_true] at hk
        have hdraw : draw = false := by
          cases draw with
          | false => rfl
          | true => simp at hd
        subst hdraw
        split at hk
        · rename_i tr1 e1 hr
          cases hk
          exact recRun_right hD hr
        · cases hk
    · exact base _ hk
theorem doDef_right {D : Doer} (hD : D.Right G P) {code : Option Nat → Nat → Code → T Value → List DItem → EM → Out} (h : CodeRight G P code) {f : FuncId} {args : Array Value} {e e' : EM} (hc : doDef D G P code f args e = some e') : plainFn P f = true ∧ SDCall G P f args e.mem e'.mem := by
  unfold doDef at hc
  try simp only [fT_eq] at hc
  split at hc
  · rename_i fn hf
    split at hc
    · rename_i c hb
      cases hp : plainFn P f with
      | false => rw [hp] at hc; cases hc
      | true =>
        rw [hp] at hc
        simp only [cond_true] at hc
        rw [force_eq] at hc
        split at hc
        · rename_i ex tr' e1 hcode
          cases hex : exOk ex with
          | false => rw [hex] at hc; cases hc
          | true =>
            rw [hex] at hc
            simp only [cond_true] at hc
            split at hc
            · rename_i vs hres
              cases hc
              have hs := doD_right hD h 100 c _ tr' e e' ex hcode
              rw [argTree_get] at hs
              refine ⟨rfl, hs.1, fun μ w cargs hsim hG hf' ha => callsDIn_of_wpSIn hf hb trivial fun c₀ cs hu => ?_⟩
              have hz : cargs.size = args.size := ha.1.symm
              refine hs.2 μ w { tmps := cargs ++ Array.replicate (fn.ntmps - cargs.size) undef, defers := [] } (c₀ :: cs) hsim hG hf' ⟨by simp [hz], fun t => ?_⟩ rfl (by simp [recoverD, hu]) _ fun a' w' μ' hd hst htr => ?_
              · have e0 : args.toList.getD t undef = args.getD t undef := by simp [List.getD_eq_getElem?_getD]
                show VRel μ (args.toList.getD t undef) _
                rw [e0]
                simp only [Array.getD_eq_getD_getElem?, Array.getElem?_append, Array.getElem?_replicate]
                rcases Nat.lt_or_ge t args.size with h1 | h1
                · have h2 : t < cargs.size := by rw [← ha.1]; exact h1
                  simp only [h1, h2, if_true, getElem?_pos, Option.getD_some]
                  exact ha.2 t _ _ (by simp [h1]) (by simp [h2])
                · have h2 : ¬ t < cargs.size := by rw [← ha.1]; omega
                  simp only [h2, if_false]
                  rw [Array.getElem?_eq_none (by omega)]
                  split <;> exact VRel.undef μ
              · obtain ⟨vc, hrun, hv⟩ := (sres (fn := fn) (nt := args.size + (fn.ntmps - args.size)) hres) μ' w' a'.tmps hst.sim htr
                have hc0 : c₀ :: cs = { c₀ with mode := .returning } :: cs := by rw [← hu]
                have hpost : bodyPostS P fn c₀ cs (fun e0 u' w'' => ∃ v μ'', e0 = .returned v ∧ u' = .returning ∧ Stp G e.mem μ w e'.mem μ'' w'') .ret a' (c₀ :: cs) w' := ⟨hd, .returning, hc0, vc, hrun, vc, μ', rfl, rfl, hst⟩
                cases ex <;> first | exact hpost | (simp [exOk] at hex; done)
            · cases hc
        · cases hc
    · cases hc
  · cases hc
theorem doDP_right {D : Doer} (hD : D.Right G P) {code : Option Nat → Nat → Code → T Value → List DItem → EM → Out} (h : CodeRight G P code) {nt : Nat} {v : Value} (hv : closedV 3 v = true) : ∀ (k : Nat) (c : Code) (tr tr' : T Value) (e e' : EM) (ex : Exit), doDP D G P code nt v k c tr e = some (ex, tr', e') → SDCodeP G P nt c (tmG tr) v e.mem ex (tmG tr') e'.mem
  | 0, _, _, _, _, _, _, hk => by simp only [doDP] at hk; cases hk
  | k + 1, c, tr, tr', e, e', ex, hk => by
    simp only [doDP] at hk
    split at hk
    · rename_i x y
      split at hk
      · rename_i tr1 e1 hx
        exact (doDP_right hD h hv k x tr tr1 e e1 .normal hx).seq (doD_right hD h k y tr1 tr' e1 e' ex hk)
      · rename_i r hne hx
        cases hk
        refine (doDP_right hD h hv k x tr tr' e e' ex hx).seq_out fun he => ?_
        subst he
        exact hne _ _ rfl
      · split at hk
        · rename_i tr1 e1 hx
          exact SDCodeP.later (h _ _ _ _ _ _ _ _ _ _ hx) (doDP_right hD h hv k y tr1 tr' e1 e' ex hk)
        · cases hk
    · rename_i c x y
      split at hk
      · rename_i b hb
        refine SDCodeP.cond hb ?_
        cases b with
        | true => exact doDP_right hD h hv k x tr tr' e e' ex hk
        | false => exact doDP_right hD h hv k y tr tr' e e' ex hk
      · cases hk
    · rename_i id ops draw
      cases hd : (!draw && ops.toList.any isRec) with
      | false => rw [hd] at hk; cases hk
      | true =>
        rw [hd] at hk
        simp only [cond_true] at hk
        have hdraw : draw = false := by
          cases draw with
          | false => rfl
          | true => simp at hd
        subst hdraw
        split at hk
        · rename_i tr1 e1 hr
          cases hk
          exact recRunP_right hD hv hr
        · cases hk
    · cases hk
theorem doDefP_right {D : Doer} (hD : D.Right G P) {code : Option Nat → Nat → Code → T Value → List DItem → EM → Out} (h : CodeRight G P code) {v : Value} (hv : closedV 3 v = true) {f : FuncId} {args : Array Value} {e e' : EM} (hc : doDefP D G P code v f args e = some e') : plainFn P f = true ∧ SDCallP G P f args v e.mem e'.mem := by
  unfold doDefP at hc
  try simp only [fT_eq] at hc
  split at hc
  · rename_i fn hf
    split at hc
    · rename_i c hb
      cases hp : plainFn P f with
      | false => rw [hp] at hc; cases hc
      | true =>
        rw [hp] at hc
        simp only [cond_true] at hc
        rw [force_eq] at hc
        split at hc
        · rename_i ex tr' e1 hcode
          cases hex : exOk ex with
          | false => rw [hex] at hc; cases hc
          | true =>
            rw [hex] at hc
            simp only [cond_true] at hc
            split at hc
            · rename_i vs hres
              cases hc
              have hs := doDP_right hD h hv 100 c _ tr' e e' ex hcode
              rw [argTree_get] at hs
              refine ⟨rfl, hs.1, fun μ w cargs hsim hG hf' ha => callsDIn_of_wpSIn hf hb trivial fun c₀ cs hu => ?_⟩
              have e0 : (fun t => args.toList.getD t undef) = fun t => args.getD t undef := by
                funext t
                simp [List.getD_eq_getElem?_getD]
              rw [e0] at hs
              refine hs.2 μ w { tmps := cargs ++ Array.replicate (fn.ntmps - cargs.size) undef, defers := [] } (c₀ :: cs) ({ c₀ with mode := .panicking [{ v := v, recovered := true }] } :: cs) hsim hG hf' (args_rel ha) rfl (by simp [recoverD, hu, panC]) (by simp [recoverD]) _ fun a' w' μ' hd hst htr => ?_
              obtain ⟨vc, hrun, hvr⟩ := (sres (fn := fn) (nt := args.size + (fn.ntmps - args.size)) hres) μ' w' a'.tmps hst.sim htr
              have hpost : bodyPostS P fn c₀ cs (fun e0 u' w'' => ∃ r μ'', e0 = .returned r ∧ u' = .panicking [{ v := v, recovered := true }] ∧ Stp G e.mem μ w e'.mem μ'' w'') .ret a' ({ c₀ with mode := .panicking [{ v := v, recovered := true }] } :: cs) w' := ⟨hd, _, rfl, vc, hrun, vc, μ', rfl, rfl, hst⟩
              cases ex <;> first | exact hpost | (simp [exOk] at hex; done)
            · cases hc
        · cases hc
    · cases hc
  · cases hc
theorem shutPE_right {v : Value} {dd ddp : FuncId → Array Value → EM → Option EM} (hd : ∀ f args e e', dd f args e = some e' → plainFn P f = true ∧ SDCall G P f args e.mem e'.mem) (hdp : ∀ f args e e', ddp f args e = some e' → plainFn P f = true ∧ SDCallP G P f args v e.mem e'.mem) : ∀ (dm : List DItem) (e e2 : EM), shutPE G dd ddp dm e = some e2 → ShutP G P v dm e.mem e2.mem
  | [], e, e2, h => by cases h
  | .mark b :: bs, e, e2, h => by
    simp only [shutPE] at h
    cases hb : Nat.ble G b with
    | false => rw [hb] at h; cases h
    | true =>
      rw [hb] at h
      simp only [cond_true] at h
      split at h
      · rename_i hg
        have h1 := shutPE_right hd hdp bs _ e2 h
        rw [EM.mem_put] at h1
        exact .mark hg (by simpa using hb) h1
      · cases h
  | .call f as cs :: bs, e, e2, h => by
    simp only [shutPE] at h
    split at h
    · rename_i e1 hc
      obtain ⟨h1, h2⟩ := hdp f _ e e1 hc
      exact .call (fun as cs w => invoke_func h1 cs as w) h2 (shutE_right hd bs e1 e2 h)
    · cases h
theorem code_args {code : Option Nat → Nat → Code → T Value → List DItem → EM → Out} (h : CodeRight G P code) {args : Array Value} {nt : Nat} {c : Code} {e e' : EM} {ex : Exit} {tr' : T Value} {dm' : List DItem} (hc : code none nt c (argTree args.toList) [] e = some (ex, tr', dm', e')) :
    SCode G P none nt c (fun t => args.getD t undef) [] e.mem ex (tmG tr') dm' e'.mem := by
  have hs := h none _ c _ [] e ex tr' dm' e' hc
  rw [argTree_get] at hs
  have : (fun t => args.toList.getD t undef) = fun t => args.getD t undef := by
    funext t
    simp [List.getD_eq_getElem?_getD]
  rw [← this]
  exact hs
theorem doPan_right {code : Option Nat → Nat → Code → T Value → List DItem → EM → Out} (h : CodeRight G P code) : PanRight (doPan G P code) G P := fun f args e v e' hc => by
  unfold doPan at hc
  try simp only [fT_eq] at hc
  split at hc
  · rename_i fn hf
    split at hc
    · rename_i c hb
      split at hc
      · rename_i ch tr' e1 hcode
        rw [force_eq] at hcode
        split at hc
        · rename_i v' hv
          cases hc
          obtain ⟨rfl, _⟩ := panV_eq hv
          exact SCallP.of_code hf hb (code_args h hcode)
        · cases hc
      · cases hc
    · cases hc
  · cases hc
theorem doCall0_right {D : Doer} (hD : D.Right G P) {code : Option Nat → Nat → Code → T Value → List DItem → EM → Out} (h : CodeRight G P code) {f : FuncId} {args : Array Value} {e e2 : EM} {v : Value} (hc : doCall0 D G P code f args e = some (v, e2)) : SCall G P f args e.mem v e2.mem := by
  unfold doCall0 at hc
  try simp only [fT_eq] at hc
  split at hc
  · rename_i fn hf
    split at hc
    · rename_i c hb
      split at hc
      · rename_i ex tr' dm' e' hcode
        rw [force_eq] at hcode
        cases hk : exOk ex with
        | false =>
          rw [hk] at hc
          simp only [cond_false] at hc
          unfold doRec at hc
          split at hc
          · rename_i ch
            split at hc
            · rename_i v0 hv0
              obtain ⟨rfl, hcl⟩ := panV_eq hv0
              split at hc
              · rename_i e2' hsh
                split at hc
                · rename_i vs hres
                  cases hc
                  exact SCall.of_recovered hf hb (code_args h hcode) (shutPE_right (fun f args e e' hd => doDef_right hD h hd) (fun f args e e' hd => doDefP_right hD h hcl hd) dm' e' e2 hsh) (sres hres)
                · cases hc
              · cases hc
            · cases hc
          · cases hc
        | true =>
          rw [hk] at hc
          simp only [cond_true] at hc
          split at hc
          · rename_i e2' hsh
            split at hc
            · rename_i vs hres
              cases hc
              have hex : ex = .normal ∨ ex = .ret := by
                cases ex <;> simp [exOk] at hk <;> simp
              have hs := h none _ c _ [] e ex tr' dm' e' hcode
              rw [argTree_get] at hs
              have g1 := shutE_right (fun f args e e' hd => doDef_right hD h hd) dm' e' e2 hsh
              have hs' : SCode G P none (args.size + (fn.ntmps - args.size)) c (fun t => args.getD t undef) [] e.mem ex (tmG tr') dm' e'.mem := by
                have : (fun t => args.toList.getD t undef) = fun t => args.getD t undef := by
                  funext t
                  simp [List.getD_eq_getElem?_getD]
                rw [← this]
                exact hs
              exact SCall.of_code hf hb hs' hex g1 (sres hres)
            · cases hc
          · cases hc
      · cases hc
    · cases hc
  · cases hc
theorem doCall_right {code : Option Nat → Nat → Code → T Value → List DItem → EM → Out} (h : CodeRight G P code) {f : FuncId} {args : Array Value} {e e2 : EM} {v : Value} (hc : doCall G P code f args e = some (v, e2)) : SCall G P f args e.mem v e2.mem := doCall0_right noDoer_right h hc
theorem doYield_right {code : Option Nat → Nat → Code → T Value → List DItem → EM → Out} (h : CodeRight G P code) {o : Oper} {c : Call} {x : Operand} {ρ : Operand → Value} {l : Nat} {e e' : EM} {b : Bool} (ho : o.op = .call c) (hc : c.callee = .value x) (hx : ρ x = .func (.yield l) #[] #[])
    (hy : doYield G code l (c.args.toList.map ρ) e = some (b, e')) : EOp G P o ρ e.mem (.bool b) e'.mem := by
  unfold doYield at hy
  split at hy
  · rename_i st0 pe0 nt tr ps as bo df hl
    cases hk : (Nat.ble G l && Nat.beq (c.args.toList.map ρ).length ps.size && ps.toList.all fun p => Nat.blt p nt) with
    | false => rw [hk] at hy; cases hy
    | true =>
      rw [hk] at hy
      simp only [cond_true] at hy
      simp only [Bool.and_eq_true] at hk
      obtain ⟨⟨k1, k2⟩, k3⟩ := hk
      split at hy
      · rename_i tr2 dm1 e1 h1
        split at hy
        · rename_i pe1 nt1 tr1 ps1 as1 bo1 df1 hl1
          split at hy
          · rename_i ex tr3 dm3 e3 h3
            split at hy
            · rename_i b' sn pn st3 pe3 nt3 tr4 ps3 as3 bo3 df3 hout hl3
              cases hy
              have s1 := h _ _ _ _ _ _ _ _ _ _ h1
              have s3 := h _ _ _ _ _ _ _ _ _ _ h3
              rw [setPsE_tm] at s1
              rw [EM.mem_put] at s3 ⊢
              exact eop_yield ho hc hx (by simpa using k1) (loopAt_get hl) (by have : (c.args.toList.map ρ).length = ps.size := by simpa using k2
                                                                               simpa using this) (fun p hp => by have := List.all_eq_true.1 k3 p hp; simpa [Nat.blt_eq] using this) s1 (loopAt_get hl1) s3 (loopAt_get hl3) hout
            · cases hy
          · cases hy
        · cases hy
      · cases hy
  · cases hy
theorem evD_right {K : Kn} (hK : K.Right G P) {p : EvP} (h : CodeRight G P p.code) (hD : p.doer.Right G P) : (evD G P K p).Right G P :=
  ⟨fun _ _ _ _ _ hc => callK_right hK (fun _ _ _ _ _ hc => doCall0_right hD h hc) hc, fun _ _ _ _ _ _ _ _ ho hc hx hy => doYield_right h ho hc hx hy, hK.2.1⟩
theorem loopE_right {body : T Value → List DItem → EM → Out} {rd : Option Nat} {nt : Nat} {c : Code} (h : ∀ tr dm e ex tr' dm' e', body tr dm e = some (ex, tr', dm', e') → SCode G P rd nt c (tmG tr) dm e.mem ex (tmG tr') dm' e'.mem) :
    ∀ (k : Nat) tr dm e ex tr' dm' e', loopE body k tr dm e = some (ex, tr', dm', e') → SRounds G P rd nt k c (tmG tr) dm e.mem ex (tmG tr') dm' e'.mem := by
  intro k
  induction k with
  | zero => intro tr dm e ex tr' dm' e' hl; cases hl
  | succ k ih =>
    intro tr dm e ex tr' dm' e' hl
    rw [loopE_succ] at hl
    unfold outThen at hl
    split at hl
    · rename_i tr1 dm1 e1 hb
      exact SRounds.more (h _ _ _ _ _ _ _ hb) (ih _ _ _ _ _ _ _ hl)
    · rename_i hne
      refine SRounds.last k (h _ _ _ _ _ _ _ hl) fun e => ?_
      subst e
      exact hne _ _ _ hl
theorem doRange_right {code : Option Nat → Nat → Code → T Value → List DItem → EM → Out} (h : CodeRight G P code) {rd : Option Nat} {nt : Nat} {g : Operand} {ps : Array Tmp} {as bo : Code} {tr tr' : T Value} {dm dm' : List DItem} {e e' : EM} {ex : Exit} {D : Doer} (hD : D.Right G P) (hr : doRange G P (doCall0 D G P code) rd nt g ps as bo tr dm e = some (ex, tr', dm', e')) :
    SCode G P rd nt (.rangeFunc g ps as bo) (tmG tr) dm e.mem ex (tmG tr') dm' e'.mem := by
  unfold doRange at hr
  split at hr
  · cases hr
  · cases hr
  · rename_i hgc hgl
    split at hr
    · rename_i f fa ca hg
      cases hp : plainFn P f with
      | false => rw [hp] at hr; cases hr
      | true =>
        rw [hp] at hr
        simp only [cond_true] at hr
        split at hr
        · split at hr
          · rename_i v e2 hcall
            split at hr
            · rename_i st pe nt' tr1 ps' as' bo' df' hl
              split at hr
              · rename_i ex' hst hex
                cases hr
                rw [EM.mem_put]
                have hc := doCall0_right hD h hcall
                refine SCode.range (v := v) hg (fun i e => hgl i e) (fun v e => hgc v e) hp ?_ hc (loopAt_get hl) hst hex
                rw [EM.mem_push, EM.mem_push]
                rfl
              · cases hr
            · cases hr
          · cases hr
        · rename_i l0
          split at hr
          · rename_i st0 pe0 nt0 tr0 ps0 as0 bo0 df0 hl0
            split at hr
            · rename_i v e2 hcall
              split at hr
              · rename_i st pe nt' tr1 ps' as' bo' df' hl
                split at hr
                · rename_i ex' hst hex
                  cases hr
                  rw [EM.mem_put]
                  have hc := doCall0_right hD h hcall
                  refine SCode.range_in (v := v) (loopAt_get hl0) hg (fun i e => hgl i e) (fun v e => hgc v e) hp ?_ hc (loopAt_get hl) hst hex
                  rw [EM.mem_push]
                  rfl
                · cases hr
              · cases hr
            · cases hr
          · cases hr
    · cases hr
theorem doRegion_right {D : Doer} (hD : D.Right G P) {rd : Option Nat} {nt id : Nat} {ops : Array Oper} {draw : Bool} {tr tr' : T Value} {dm dm' : List DItem} {e e' : EM} {ex : Exit} (hr : doRegion D G P nt ops draw tr dm e = some (ex, tr', dm', e')) :
    SCode G P rd nt (.region id ops draw) (tmG tr) dm e.mem ex (tmG tr') dm' e'.mem := by
  unfold doRegion at hr
  split at hr
  · rename_i rs tr2 e2 hrun
    cases draw with
    | false =>
      cases hr
      obtain ⟨h1, h2⟩ := regRun_text (nt := nt) (rc := none) hD (ops := ops) ops.toList 0 tr e rs tr' e' rfl hrun
      refine ⟨h1, fun μ w a rc hs hG hf ht hd _ Q hQ => wpIn_region ?_⟩
      have h3 := (regRun_text (nt := nt) (rc := rc) hD (ops := ops) ops.toList 0 tr e rs tr' e' rfl hrun).2 μ w a hs hG hf ht Q fun a' w' μ' he hst htr => hQ a' w' μ' (by rw [he]; exact hd.ext hst.extE) hst htr
      rw [List.range_eq_range']
      simpa using h3
    | true =>
      simp only [cond_true] at hr
      rw [force_eq] at hr
      cases hk : (P.follows .mixedOrders && Nat.ble G e.next && chkText G nt ops (masks ops.toList []) && chkEff (masks ops.toList []) (effMask rs 0) ops.size && chkDyn (masks ops.toList []) (effMask rs 0) ops.size (stagesE rs 0 ops.size e2) rs 0) with
      | false => rw [hk] at hr; cases hr
      | true =>
        rw [hk] at hr
        cases hr
        simp only [Bool.and_eq_true] at hk
        obtain ⟨⟨⟨⟨k1, k2⟩, k3⟩, k4⟩, k5⟩ := hk
        obtain ⟨hok, m0, mn, tmn⟩ := run_ok hD rfl k3 hrun k4 k5 (by show G ≤ e.next; simpa using k2)
        have := region_drawn (id := id) (dm := dm) (rd := rd) hok k1
        rw [m0, mn, tmn] at this
        exact this
  · cases hr
theorem splitD_eq {ops : Array Oper} {l : List Oper} {o : Oper} (h : splitD ops = some (l, o)) : ops.toList = l ++ [o] := by
  unfold splitD at h
  split at h
  · rename_i o' l' hr
    split at h
    · cases h
      have := congrArg List.reverse hr
      simpa using this
    · cases h
  · cases h
theorem doDefer_right {D : Doer} (hD : D.Right G P) {nt id : Nat} {ops : Array Oper} {tr tr' : T Value} {dm dm' : List DItem} {e e' : EM} {ex : Exit} {l : List Oper} {o : Oper} (hsp : splitD ops = some (l, o)) (hr : doDefer D G P nt ops tr dm e l o = some (ex, tr', dm', e')) :
    SCode G P none nt (.region id ops false) (tmG tr) dm e.mem ex (tmG tr') dm' e'.mem := by
  have hops := splitD_eq hsp
  unfold doDefer at hr
  split at hr
  · rename_i rs tr2 e2 hrun
    split at hr
    · rename_i it hg hdst hit
      cases hk : opndOk G o with
      | false => rw [hk] at hr; cases hr
      | true =>
        rw [hk] at hr
        cases hr
        have hpre := fun rc => regRun_pre (nt := nt) (rc := rc) hD (ops := ops) l 0 tr e rs tr' e' [o] (by simpa using hops) hrun
        refine ⟨(hpre none).1, fun μ w a rc hs hG hf ht hd hrd Q hQ => wpIn_region ?_⟩
        obtain rfl : rc = none := by cases rc with | none => rfl | some r => exact hrd.elim
        have hsz : ops.size = l.length + 1 := by rw [← Array.length_toList, hops]; simp
        have key := (hpre none).2 μ w a hs hG hf ht Q [l.length] fun a' w' μ' he hst htr => ?_
        · rw [hsz, List.range_succ, List.range_eq_range']
          exact key
        · have hlo : ops[l.length]? = some o := by
            rw [← Array.getElem?_toList, hops]; simp
          have hw : Region.wanted o (yielded ops a'.tmps) = true := by unfold Region.wanted; rw [hg]
          simp only [wpOpsIn, hlo, hw, if_true]
          have hor := orel_of hst.sim htr hk
          unfold deferOf at hit
          split at hit
          · rename_i c ho
            split at hit
            · rename_i x hc
              split at hit
              · rename_i f fa ca hx
                cases hit
                have h1 := hor x (by rw [ho]; simp [Op.operands, Call.operands, hc])
                rw [hx] at h1
                obtain ⟨fa', ca', e1, ha, hca⟩ := h1.func_inv
                have hargs := ARel.map (μ := μ') (ρ := oper2 (tmG tr')) (ρc := a'.eval) (xs := c.args) fun y hy => hor y (by rw [ho]; simp only [Op.operands, Call.operands, hc]; simp [hy])
                have hrun' : (execOp a'.eval o).run P w' = .ok (.defer { target := .fn (.func f) ca', args := fa' ++ c.args.map a'.eval }) w' := by
                  unfold execOp
                  simp only [ho, Sem.run_bind, resolve_value hc e1, Result.andThen_ok, Sem.run_pure]
                refine ⟨fun _ _ => trivial, ?_⟩
                have hsem : (o.semAt (FW none).round a'.eval).run P w' = .ok (.defer { target := .fn (.func f) ca', args := fa' ++ c.args.map a'.eval }) w' := hrun'
                rw [hsem, Oper.uponIn_defer, hdst]
                exact hQ _ w' μ' ⟨⟨_, _, rfl, ha.append hargs, hca⟩, by rw [he]; exact hd.ext hst.extE⟩ hst htr
              · cases hit
            · cases hit
          · cases hit
    · cases hr
  · cases hr
theorem doRegionD_right {D : Doer} (hD : D.Right G P) {rd : Option Nat} {nt id : Nat} {ops : Array Oper} {draw : Bool} {tr tr' : T Value} {dm dm' : List DItem} {e e' : EM} {ex : Exit} (hr : doRegionD D G P rd nt ops draw tr dm e = some (ex, tr', dm', e')) :
    SCode G P rd nt (.region id ops draw) (tmG tr) dm e.mem ex (tmG tr') dm' e'.mem := by
  unfold doRegionD at hr
  split at hr
  · exact doRegion_right hD hr
  · rename_i l o hsp
    cases draw with
    | true => cases hr
    | false =>
      simp only [cond_false] at hr
      split at hr
      · exact doDefer_right hD hsp hr
      · cases hr
theorem evP_right (G : Nat) (P : Program) {K : Kn} (hK : K.Right G P) : ∀ n, CodeRight G P (evP G P K n).code ∧ (evP G P K n).doer.Right G P := by
  intro n
  induction n with
  | zero => exact ⟨fun rd nt c tr dm e ex tr' dm' e' h => (by cases h), noDoer_right⟩
  | succ n ih0 =>
    obtain ⟨ih, ihD⟩ := ih0
    refine ⟨fun rd nt c tr dm e ex tr' dm' e' h => ?_, evD_right hK ih ihD⟩
    replace h : evStep G P K n (evP G P K n) rd nt c tr dm e = some (ex, tr', dm', e') := h
    cases c with
    | skip => cases h; exact SCode.skip
    | label l => cases h; exact SCode.label l
    | exit id => cases h; exact SCode.exit id
    | ret => cases h; exact SCode.ret
    | seq x y =>
      simp only [evStep] at h
      unfold outThen at h
      split at h
      · rename_i tr1 dm1 e1 hx
        exact SCode.seq (ih _ _ _ _ _ _ _ _ _ _ hx) (ih _ _ _ _ _ _ _ _ _ _ h)
      · rename_i hne
        refine SCode.seq_out (ih _ _ _ _ _ _ _ _ _ _ h) fun e => ?_
        subst e
        exact hne _ _ _ h
    | cond c x y =>
      simp only [evStep] at h
      unfold outCond at h
      split at h
      · rename_i b hb
        refine SCode.cond hb ?_
        cases b with
        | true => exact ih _ _ _ _ _ _ _ _ _ _ h
        | false => exact ih _ _ _ _ _ _ _ _ _ _ h
      · cases h
    | block id c =>
      simp only [evStep] at h
      unfold outBlk at h
      split at h
      · rename_i ex' r hb
        cases h
        exact SCode.block (ih _ _ _ _ _ _ _ _ _ _ hb)
      · cases h
    | loop c =>
      simp only [evStep] at h
      exact (loopE_right (fun tr dm e ex tr' dm' e' hb => ih _ _ _ _ _ _ _ _ _ _ hb) n _ _ _ _ _ _ _ h).loop
    | region id ops draw =>
      simp only [evStep] at h
      unfold outReg at h
      split at h
      · rename_i r hr
        cases h
        exact doRegionD_right (evD_right hK ih ihD) hr
      · unfold panRegion at h
        cases draw with
        | true => cases h
        | false =>
          simp only [cond_false] at h
          split at h
          · rename_i v tr2 e2 hp
            cases h
            exact panRun_code (evD_right hK ih ihD) (doPan_right ih) hp
          · cases h
    | rangeFunc g ps as bo =>
      simp only [evStep] at h
      exact doRange_right ih ihD h
    | scope c =>
      simp only [evStep] at h
      unfold outScp at h
      split at h
      · rename_i ex' r hb
        cases hg : notGoto ex' with
        | false => rw [hg] at h; cases h
        | true =>
          rw [hg] at h
          cases h
          exact SCode.scope (ih _ _ _ _ _ _ _ _ _ _ hb) hg
      · cases h
    | goto l => cases h
    | refuse w => cases h
theorem ev_right (G : Nat) (P : Program) {K : Kn} (hK : K.Right G P) (n : Nat) : CodeRight G P (ev G P K n) := (evP_right G P hK n).1
end Go.Proofs.YthemeeiedlbhkaaGreatDoor
