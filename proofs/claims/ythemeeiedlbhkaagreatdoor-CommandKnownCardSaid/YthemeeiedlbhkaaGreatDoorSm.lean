/-
  The second memory as a tree; regions carried out in the text's order. Over any program. Conditions: none.
-/
import Derived.Test.YthemeeiedlbhkaaGreatDoorSl
namespace Go.Proofs.YthemeeiedlbhkaaGreatDoor

/-- The temporaries. -/
noncomputable def tmG (tr : T Value) : Nat → Value := fun t => match tr.get t with | some v => v | none => undef
theorem tmG_put (tr : T Value) (d : Nat) (v : Value) : tmG (tr.put (some v) d) = upd (tmG tr) d v := by
  funext t
  unfold tmG upd
  rw [T.get_put]
  by_cases h : t = d <;> simp [h]
/-- What lies under a number. -/
inductive EBlk where
  | b (x : Blk2)
  | loop (state : LoopState) (pending : Option Code) (nt : Nat) (tr : T Value) (params : Array Tmp) (assign body : Code) (defers : Nat)
noncomputable def toB : EBlk → Blk2
  | .b x => x
  | .loop st pe nt tr ps as bo df => .loop st pe nt (tmG tr) ps as bo df
structure EM where
  m : T EBlk
  next : Nat
noncomputable def EM.mem (e : EM) : Mem := ⟨fun b => match e.m.get b with | some x => some (toB x) | none => none, e.next⟩
noncomputable def EM.push (e : EM) (x : EBlk) : EM := ⟨e.m.put (some x) e.next, e.next + 1⟩
noncomputable def EM.put (e : EM) (b : Nat) (x : EBlk) : EM := ⟨e.m.put (some x) b, e.next⟩
noncomputable def EM.kill (e : EM) (b : Nat) : EM := ⟨e.m.put none b, e.next⟩
theorem EM.mem_push (e : EM) (x : EBlk) : (e.push x).mem = e.mem.push (toB x) := by
  unfold EM.mem EM.push Mem.push
  congr 1
  funext b
  simp only [T.get_put]
  by_cases h : b = e.next <;> simp [h]
theorem EM.mem_put (e : EM) (c : Nat) (x : EBlk) : (e.put c x).mem = e.mem.put c (toB x) := by
  unfold EM.mem EM.put Mem.put
  congr 1
  funext b
  simp only [T.get_put]
  by_cases h : b = c <;> simp [h]
theorem EM.mem_kill (e : EM) (c : Nat) : (e.kill c).mem = e.mem.kill c := by
  unfold EM.mem EM.kill Mem.kill
  congr 1
  funext b
  simp only [T.get_put]
  by_cases h : b = c <;> simp [h]
noncomputable def MCmd.appE (e : EM) : MCmd → EM
  | .same => e
  | .push x => e.push (.b x)
  | .put b x => e.put b (.b x)
  | .kpush b x => (e.kill b).push (.b x)
  | .kill b => e.kill b
theorem MCmd.mem_appE (e : EM) (c : MCmd) : (c.appE e).mem = c.app e.mem := by
  cases c with
  | same => rfl
  | push x => exact e.mem_push (.b x)
  | put b x => exact e.mem_put b (.b x)
  | kpush b x => show ((e.kill b).push (.b x)).mem = _; rw [EM.mem_push, EM.mem_kill]; rfl
  | kill b => exact e.mem_kill b

variable {P : Program} {G : Nat} {nt : Nat}
/-- What a call operation calls. -/
inductive Callee2 where
  | func (f : FuncId) (args : Array Value)
  | yld (l : Nat) (args : List Value)
noncomputable def calleeOf (P : Program) (o : Oper) (ρ : Operand → Value) : Option Callee2 :=
  match o.op with
  | .call c => (match c.callee with
    | .value x => (match ρ x with
      | .func (.func f) fa ca => if plainFn P f then some (.func f (fa ++ c.args.map ρ ++ ca)) else none
      | .func (.yield l) a b => if a.size = 0 ∧ b.size = 0 then some (.yld l (c.args.toList.map ρ)) else none
      | _ => none)
    | .invoke x name => (match ρ x with
      | .iface t u => (match methF P t name with
        | some f => if plainFn P f then some (.func f (#[u] ++ c.args.map ρ)) else none
        | none => none)
      | _ => none)
    | _ => none)
  | _ => none
/-- How calls and rounds go. -/
structure Doer where
  call : FuncId → Array Value → EM → Option (Value × EM)
  yld : Nat → List Value → EM → Option (Bool × EM)
  same : List Nat
structure Doer.Right (D : Doer) (G : Nat) (P : Program) : Prop where
  call : ∀ f args e v e', D.call f args e = some (v, e') → SCall G P f args e.mem v e'.mem
  yld : ∀ (o : Oper) (c : Call) (x : Operand) (ρ : Operand → Value) l e b e', o.op = .call c → c.callee = .value x → ρ x = .func (.yield l) #[] #[] → D.yld l (c.args.toList.map ρ) e = some (b, e') → EOp G P o ρ e.mem (.bool b) e'.mem
  same : ∀ f, hasF f D.same = true → SameFn P f
/-- What a call hands back that does nothing else. -/
noncomputable def sameV (D : Doer) (o : Oper) (ρ : Operand → Value) : Option Value :=
  match o.op with
  | .call c => (match c.callee with
    | .value x => (match ρ x, c.args.toList with
      | .func (.func f) a b, [y] => cond (hasF f D.same) (cond (Nat.beq a.size 0) (cond (Nat.beq b.size 0) (some (ρ y)) none) none) none
      | _, _ => none)
    | _ => none)
  | _ => none
noncomputable def opRun (D : Doer) (G : Nat) (P : Program) (e : EM) (o : Oper) (ρ : Operand → Value) : Option (Rec × EM) :=
  match calleeOf P o ρ with
  | some (.func f args) => (match D.call f args e with | some (v, e') => some (.eff v, e') | none => none)
  | some (.yld l args) => (match D.yld l args e with | some (b, e') => some (.eff (.bool b), e') | none => none)
  | none => (match sameV D o ρ with
    | some v => some (.val v, e)
    | none => (match stepOp G P e.mem o ρ with
    | some (.val v) => some (.val v, e)
    | some (.load b off cs v) => some (.load b off cs v, e)
    | some (.make x fm) => some (.make x fm, e.push (.b x))
    | some (.eff v c) => some (.eff v, c.appE e)
    | none => none))
/-- What a record says of its operation. -/
def Rec.Right (G : Nat) (P : Program) (o : Oper) (ρ : Operand → Value) (σ σ' : Mem) : Rec → Prop
  | .skip => False
  | .val v => VOp P o ρ v ∧ σ' = σ
  | .load b off cs v => LOp P o ρ b off cs v ∧ σ' = σ ∧ (∀ μ ρc, ORel μ ρ ρc o.op.operands → ∃ bi, μ b = some bi) ∧ ∃ r, σ.get b = some (.row r) ∧ ∀ (i : Nat) x, cs[i]? = some x → r.cs[off + i]? = some x
  | .make x fm => AOp P o ρ x fm ∧ σ' = σ.push x
  | .eff v => EOp G P o ρ σ v σ'
theorem opRun_right {D : Doer} (hD : D.Right G P) {e e' : EM} {o : Oper} {ρ : Operand → Value} {r : Rec} (hρ : ∀ v, ρ (.const v) = v) (h : opRun D G P e o ρ = some (r, e')) : r.Right G P o ρ e.mem e'.mem := by
  unfold opRun at h
  split at h
  · rename_i f args hc
    split at h
    · rename_i v e1 hcall
      cases h
      unfold calleeOf at hc
      split at hc
      · rename_i c ho
        split at hc
        · rename_i x hx
          split at hc
          · rename_i f' fa ca hf
            split at hc
            · rename_i hp
              cases hc
              exact eop_call ho hx hf hp (hD.call _ _ _ _ _ hcall)
            · cases hc
          · split at hc <;> cases hc
          · cases hc
        · rename_i x name hx
          split at hc
          · rename_i t u hf
            split at hc
            · rename_i f' hm
              split at hc
              · rename_i hp
                cases hc
                exact eop_invoke ho hx hf hm hp (hD.call _ _ _ _ _ hcall)
              · cases hc
            · cases hc
          · cases hc
        · cases hc
      · cases hc
    · cases h
  · rename_i l args hc
    split at h
    · rename_i b e1 hy
      cases h
      unfold calleeOf at hc
      split at hc
      · rename_i c ho
        split at hc
        · rename_i x hx
          split at hc
          · split at hc <;> cases hc
          · rename_i l' a' b' hf
            split at hc
            · rename_i hs
              cases hc
              have ha : a' = #[] := Array.eq_empty_of_size_eq_zero hs.1
              have hb : b' = #[] := Array.eq_empty_of_size_eq_zero hs.2
              subst ha hb
              exact hD.yld o c x ρ _ _ _ _ ho hx hf hy
            · cases hc
          · cases hc
        · split at hc
          · split at hc
            · split at hc <;> cases hc
            · cases hc
          · cases hc
        · cases hc
      · cases hc
    · cases h
  · split at h
    · rename_i v hs
      cases h
      unfold sameV at hs
      split at hs
      · rename_i c ho
        split at hs
        · rename_i x hc
          split at hs
          · rename_i f a b y hx ha
            cases h1 : hasF f D.same with
            | false => rw [h1] at hs; cases hs
            | true =>
              cases h2 : Nat.beq a.size 0 with
              | false => rw [h1, h2] at hs; cases hs
              | true =>
                cases h3 : Nat.beq b.size 0 with
                | false => rw [h1, h2, h3] at hs; cases hs
                | true =>
                  rw [h1, h2, h3] at hs
                  cases hs
                  have e1 : a = #[] := Array.eq_empty_of_size_eq_zero (Nat.eq_of_beq_eq_true h2)
                  have e2 : b = #[] := Array.eq_empty_of_size_eq_zero (Nat.eq_of_beq_eq_true h3)
                  subst e1 e2
                  exact ⟨vop_same ho hc hx (by apply Array.ext'; simpa using ha) (hD.same f h1), rfl⟩
          · cases hs
        · cases hs
      · cases hs
    split at h
    · rename_i v hs; cases h; exact ⟨stepOp_right (G := G) hρ hs, rfl⟩
    · rename_i b off cs v hs; cases h
      have := stepOp_right (G := G) hρ hs
      exact ⟨this.1, rfl, this.2⟩
    · rename_i x fm hs; cases h; exact ⟨stepOp_right (G := G) hρ hs, e.mem_push (.b x)⟩
    · rename_i v c hs; cases h
      have := stepOp_right (G := G) hρ hs
      show EOp _ _ _ _ _ _ _
      rw [MCmd.mem_appE]
      exact this
    · cases h
theorem Rec.Right.eop {o : Oper} {ρ : Operand → Value} {σ σ' : Mem} {r : Rec} (h : r.Right G P o ρ σ σ') : EOp G P o ρ σ (r.value σ) σ' := by
  cases r with
  | skip => exact h.elim
  | val v => obtain ⟨h1, rfl⟩ := h; exact h1.eop _
  | load b off cs v => obtain ⟨h1, rfl, h3, r, hr, hc⟩ := h; exact h1.eop hr hc h3
  | make x fm => obtain ⟨h1, rfl⟩ := h; exact h1.eop _
  | eff v => exact h
/-- Is an operation carried out? -/
noncomputable def wantedT (ops : Array Oper) (tm : Nat → Value) (o : Oper) : Bool := match o.guard with
  | none => true
  | some (g, want) => match (ops[g]?).bind (·.dst) with
    | some d => (match tm d with | .bool b => b == want | _ => false)
    | none => false
noncomputable def putDst (nt : Nat) (tr : T Value) (v : Value) : Option Nat → Option (T Value)
  | none => some tr
  | some d => cond (Nat.blt d nt) (some (tr.put (some v) d)) none
/-- Operands that may stand: constants without addresses; variables that are there. -/
def opndOk (G : Nat) (o : Oper) : Bool := allA (fun | .const v => closedV 3 v | .global g => cond (Nat.blt g 64) (Nat.blt g G) false | _ => true) o.op.operands
theorem glob_ok {g : Nat} (h : cond (Nat.blt g 64) (Nat.blt g G) false = true) : g < 64 ∧ g < G := by
  cases h1 : Nat.blt g 64 with
  | false => rw [h1] at h; cases h
  | true => rw [h1] at h; exact ⟨by simpa [Nat.blt_eq] using h1, by simpa [Nat.blt_eq] using h⟩
abbrev RegOut := Option (List (Rec × EM) × T Value × EM)
def regCons (x : Rec × EM) : RegOut → RegOut
  | some (rs, tr2, e2) => some (x :: rs, tr2, e2)
  | none => none
def regPut (x : Rec × EM) (ih : T Value → RegOut) : Option (T Value) → RegOut
  | some tr1 => regCons x (ih tr1)
  | none => none
noncomputable def regOp (nt : Nat) (o : Oper) (tr : T Value) (e : EM) (ih : T Value → EM → RegOut) : Option (Rec × EM) → RegOut
  | some (r, e1) => regPut (r, e) (fun tr1 => ih tr1 e1) (putDst nt tr (r.value e.mem) o.dst)
  | none => none
noncomputable def regStep (D : Doer) (G : Nat) (P : Program) (nt : Nat) (ops : Array Oper) (o : Oper) (ih : T Value → EM → RegOut) (tr : T Value) (e : EM) : RegOut :=
  cond (wantedT ops (tmG tr) o) (cond (opndOk G o) (regOp nt o tr e ih (opRun D G P e o (oper2 (tmG tr)))) none) (regPut (.skip, e) (fun tr1 => ih tr1 e) (putDst nt tr undef o.dst))
noncomputable def regRun (D : Doer) (G : Nat) (P : Program) (nt : Nat) (ops : Array Oper) (l : List Oper) : T Value → EM → RegOut :=
  List.rec (motive := fun _ => T Value → EM → RegOut) (fun tr e => some ([], tr, e)) (fun o _ ih tr e => regStep D G P nt ops o ih tr e) l
theorem regRun_nil (D : Doer) (G : Nat) (P : Program) (nt : Nat) (ops : Array Oper) (tr : T Value) (e : EM) : regRun D G P nt ops [] tr e = some ([], tr, e) := rfl
theorem regRun_cons (D : Doer) (G : Nat) (P : Program) (nt : Nat) (ops : Array Oper) (o : Oper) (l : List Oper) (tr : T Value) (e : EM) : regRun D G P nt ops (o :: l) tr e =
    cond (wantedT ops (tmG tr) o)
      (cond (opndOk G o) (match opRun D G P e o (oper2 (tmG tr)) with
        | some (r, e1) => (match putDst nt tr (r.value e.mem) o.dst with
          | some tr1 => (match regRun D G P nt ops l tr1 e1 with
            | some (rs, tr2, e2) => some ((r, e) :: rs, tr2, e2)
            | none => none)
          | none => none)
        | none => none) none)
      (match putDst nt tr undef o.dst with
        | some tr1 => (match regRun D G P nt ops l tr1 e with
          | some (rs, tr2, e2) => some ((.skip, e) :: rs, tr2, e2)
          | none => none)
        | none => none) := by
  show regStep D G P nt ops o (regRun D G P nt ops l) tr e = _
  unfold regStep
  have h1 : ∀ x : Option (Rec × EM), regOp nt o tr e (regRun D G P nt ops l) x = (match x with
        | some (r, e1) => (match putDst nt tr (r.value e.mem) o.dst with
          | some tr1 => (match regRun D G P nt ops l tr1 e1 with
            | some (rs, tr2, e2) => some ((r, e) :: rs, tr2, e2)
            | none => none)
          | none => none)
        | none => none) := fun x => by
    cases x with
    | none => rfl
    | some x =>
      obtain ⟨r, e1⟩ := x
      simp only [regOp]
      cases putDst nt tr (r.value e.mem) o.dst with
      | none => rfl
      | some tr1 =>
        simp only [regPut]
        cases regRun D G P nt ops l tr1 e1 with
        | none => rfl
        | some y => rfl
  have h2 : ∀ x : Option (T Value), regPut (.skip, e) (fun tr1 => regRun D G P nt ops l tr1 e) x = (match x with
        | some tr1 => (match regRun D G P nt ops l tr1 e with
          | some (rs, tr2, e2) => some ((.skip, e) :: rs, tr2, e2)
          | none => none)
        | none => none) := fun x => by
    cases x with
    | none => rfl
    | some tr1 =>
      simp only [regPut]
      cases regRun D G P nt ops l tr1 e with
      | none => rfl
      | some y => rfl
  rw [h1, h2]
theorem putDst_rel {μ : Mu} {tr tr1 : T Value} {v vc : Value} {d : Option Nat} {a : Act} (h : putDst nt tr v d = some tr1) (ht : TRel μ nt (tmG tr) a.tmps) (hv : VRel μ v vc) : TRel μ nt (tmG tr1) (a.put d vc).tmps := by
  cases d with
  | none => cases h; exact ht
  | some d =>
    simp only [putDst] at h
    cases hb : Nat.blt d nt with
    | false => rw [hb] at h; cases h
    | true =>
      rw [hb] at h
      cases h
      rw [tmG_put]
      exact ht.put (by simpa [Nat.blt_eq] using hb) hv
theorem orel_of {μ : Mu} {σ : Mem} {w : World} {tr : T Value} {a : Act} {o : Oper} (hs : Sim G μ σ w) (ht : TRel μ nt (tmG tr) a.tmps) (h : opndOk G o = true) : ORel μ (oper2 (tmG tr)) a.eval o.op.operands := fun x hx => by
  have := Array.all_eq_true_iff_forall_mem.1 ((allA_eq _ _).symm.trans h) x hx
  cases x with
  | tmp t => exact ht.2 t
  | const v => exact closedV_rel μ 3 v this
  | global g =>
    have h64 := glob_ok this
    obtain ⟨bi, h1, h23⟩ := hs.glob g h64.2
    obtain ⟨h2, h3⟩ := h23 h64.1
    have k := VRel.ptr (μ := μ) g 0 bi h1
    rw [h2, h3] at k
    exact k
  | func f => exact .func _ _ _ _ _ rfl rfl (by simp) rfl (by simp)
theorem wanted_of {μ : Mu} {tr : T Value} {a : Act} {ops : Array Oper} {o : Oper} (ht : TRel μ nt (tmG tr) a.tmps) : Region.wanted o (yielded ops a.tmps) = wantedT ops (tmG tr) o := by
  unfold Region.wanted wantedT
  cases o.guard with
  | none => rfl
  | some gw =>
    obtain ⟨g, want⟩ := gw
    simp only [yielded]
    cases hd : (ops[g]?).bind (·.dst) with
    | none => rfl
    | some d =>
      simp only [Option.bind_some]
      have hv := ht.2 d
      cases hy : a.tmps[d]? with
      | none =>
        have e : a.tmps.getD d undef = undef := by simp [hy]
        rw [e] at hv
        generalize tmG tr d = z at hv
        cases z <;> first | rfl | (exfalso; cases hv; done)
      | some y =>
        have e : a.tmps.getD d undef = y := by simp [hy]
        rw [e] at hv
        generalize tmG tr d = z at hv
        cases hv with
        | flat _ => cases y <;> first | rfl | (simp; done)
        | _ => first | rfl | (simp; done)
/-- A region in the text's order. -/
theorem regRun_text {D : Doer} (hD : D.Right G P) {ops : Array Oper} {rc : Option Nat} : ∀ (l : List Oper) (j : Nat) (tr : T Value) (e : EM) (rs : List (Rec × EM)) (tr2 : T Value) (e2 : EM), ops.toList.drop j = l → regRun D G P nt ops l tr e = some (rs, tr2, e2) →
    e.mem.next ≤ e2.mem.next ∧ ∀ μ w (a : Act), Sim G μ e.mem w → G ≤ e.mem.next → Fresh μ e.mem e2.mem → TRel μ nt (tmG tr) a.tmps → ∀ Q : Exit → Act → World → Prop, (∀ (a' : Act) w' μ', a'.defers = a.defers → Stp G e.mem μ w e2.mem μ' w' → TRel μ' nt (tmG tr2) a'.tmps → Q .normal a' w') → wpOpsIn (FW rc) 0 P ops Q (List.range' j l.length) a w := by
  intro l
  induction l with
  | nil =>
    intro j tr e rs tr2 e2 hj h
    cases h
    exact ⟨Nat.le_refl _, fun μ w a hs hG _ ht Q hQ => hQ a w μ rfl (Stp.refl hs hG) ht⟩
  | cons o l ih =>
    intro j tr e rs tr2 e2 hj h
    have hjo : ops[j]? = some o := by
      have := congrArg List.head? hj
      rw [List.head?_drop] at this
      simpa using this
    have hj' : ops.toList.drop (j + 1) = l := by
      have := congrArg List.tail hj
      simpa using this
    rw [regRun_cons] at h
    cases hw : wantedT ops (tmG tr) o with
    | false =>
      rw [hw] at h
      simp only [cond_false] at h
      split at h
      · rename_i tr1 hp
        split at h
        · rename_i rs' tr2' e2' hr
          cases h
          obtain ⟨h1, h2⟩ := ih (j + 1) tr1 e rs' tr2 e2 hj' hr
          refine ⟨h1, fun μ w a hs hG hf ht Q hQ => ?_⟩
          rw [List.length_cons, List.range'_succ]
          simp only [wpOpsIn, hjo, wanted_of ht, hw, Bool.false_eq_true, if_false]
          refine ⟨fun _ _ => trivial, h2 μ w _ hs hG hf (putDst_rel hp ht (VRel.undef μ)) Q fun a' w' μ' hd hst htr => hQ a' w' μ' (hd.trans ?_) hst htr⟩
          cases o.dst <;> rfl
        · cases h
      · cases h
    | true =>
      rw [hw] at h
      simp only [cond_true] at h
      cases hk : opndOk G o with
      | false => rw [hk] at h; cases h
      | true =>
        rw [hk] at h
        simp only [cond_true] at h
        split at h
        · rename_i r e1 hop
          split at h
          · rename_i tr1 hp
            split at h
            · rename_i rs' tr2' e2' hr
              cases h
              obtain ⟨h1, h2⟩ := ih (j + 1) tr1 e1 rs' tr2 e2 hj' hr
              have hright := opRun_right hD (fun _ => rfl) hop
              have heop := hright.eop
              refine ⟨Nat.le_trans heop.1 h1, fun μ w a hs hG hf ht Q hQ => ?_⟩
              rw [List.length_cons, List.range'_succ]
              simp only [wpOpsIn, hjo, wanted_of ht, hw, if_true]
              refine heop.2 μ w a hs hG (fun b g1 g2 => hf b g1 (Nat.lt_of_lt_of_le g2 h1)) (orel_of hs ht hk) _ _ (fun vc w1 μ1 s1 hv => ?_) rc
              refine h2 μ1 w1 _ s1.sim (Nat.le_trans hG s1.next) (fun b g1 g2 => ?_) (putDst_rel hp (ht.ext s1.extE) hv) Q fun a' w' μ' hd hst htr => hQ a' w' μ' (hd.trans ?_) (s1.trans hst) htr
              · rw [s1.ext b (.inr g1)]; exact hf b (Nat.le_trans s1.next g1) g2
              · cases o.dst <;> rfl
            · cases h
          · cases h
        · cases h
/-- The first operations of a region, and what follows them. -/
theorem regRun_pre {D : Doer} (hD : D.Right G P) {ops : Array Oper} {rc : Option Nat} : ∀ (l : List Oper) (j : Nat) (tr : T Value) (e : EM) (rs : List (Rec × EM)) (tr2 : T Value) (e2 : EM) (tl : List Oper), ops.toList.drop j = l ++ tl → regRun D G P nt ops l tr e = some (rs, tr2, e2) →
    e.mem.next ≤ e2.mem.next ∧ ∀ μ w (a : Act), Sim G μ e.mem w → G ≤ e.mem.next → Fresh μ e.mem e2.mem → TRel μ nt (tmG tr) a.tmps → ∀ (Q : Exit → Act → World → Prop) (rest : List Nat), (∀ (a' : Act) w' μ', a'.defers = a.defers → Stp G e.mem μ w e2.mem μ' w' → TRel μ' nt (tmG tr2) a'.tmps → wpOpsIn (FW rc) 0 P ops Q rest a' w') → wpOpsIn (FW rc) 0 P ops Q (List.range' j l.length ++ rest) a w := by
  intro l
  induction l with
  | nil =>
    intro j tr e rs tr2 e2 tl hj h
    cases h
    exact ⟨Nat.le_refl _, fun μ w a hs hG _ ht Q rest hQ => hQ a w μ rfl (Stp.refl hs hG) ht⟩
  | cons o l ih =>
    intro j tr e rs tr2 e2 tl hj h
    have hjo : ops[j]? = some o := by
      have := congrArg List.head? hj
      rw [List.head?_drop] at this
      simpa using this
    have hj' : ops.toList.drop (j + 1) = l ++ tl := by
      have := congrArg List.tail hj
      simpa using this
    rw [regRun_cons] at h
    cases hw : wantedT ops (tmG tr) o with
    | false =>
      rw [hw] at h
      simp only [cond_false] at h
      split at h
      · rename_i tr1 hp
        split at h
        · rename_i rs' tr2' e2' hr
          cases h
          obtain ⟨h1, h2⟩ := ih (j + 1) tr1 e rs' tr2 e2 tl hj' hr
          refine ⟨h1, fun μ w a hs hG hf ht Q rest hQ => ?_⟩
          rw [List.length_cons, List.range'_succ, List.cons_append]
          simp only [wpOpsIn, hjo, wanted_of ht, hw, Bool.false_eq_true, if_false]
          refine ⟨fun _ _ => trivial, h2 μ w _ hs hG hf (putDst_rel hp ht (VRel.undef μ)) Q rest fun a' w' μ' hd hst htr => hQ a' w' μ' (hd.trans ?_) hst htr⟩
          cases o.dst <;> rfl
        · cases h
      · cases h
    | true =>
      rw [hw] at h
      simp only [cond_true] at h
      cases hk : opndOk G o with
      | false => rw [hk] at h; cases h
      | true =>
        rw [hk] at h
        simp only [cond_true] at h
        split at h
        · rename_i r e1 hop
          split at h
          · rename_i tr1 hp
            split at h
            · rename_i rs' tr2' e2' hr
              cases h
              obtain ⟨h1, h2⟩ := ih (j + 1) tr1 e1 rs' tr2 e2 tl hj' hr
              have hright := opRun_right hD (fun _ => rfl) hop
              have heop := hright.eop
              refine ⟨Nat.le_trans heop.1 h1, fun μ w a hs hG hf ht Q rest hQ => ?_⟩
              rw [List.length_cons, List.range'_succ, List.cons_append]
              simp only [wpOpsIn, hjo, wanted_of ht, hw, if_true]
              refine heop.2 μ w a hs hG (fun b g1 g2 => hf b g1 (Nat.lt_of_lt_of_le g2 h1)) (orel_of hs ht hk) _ _ (fun vc w1 μ1 s1 hv => ?_) rc
              refine h2 μ1 w1 _ s1.sim (Nat.le_trans hG s1.next) (fun b g1 g2 => ?_) (putDst_rel hp (ht.ext s1.extE) hv) Q rest fun a' w' μ' hd hst htr => hQ a' w' μ' (hd.trans ?_) (s1.trans hst) htr
              · rw [s1.ext b (.inr g1)]; exact hf b (Nat.le_trans s1.next g1) g2
              · cases o.dst <;> rfl
            · cases h
          · cases h
        · cases h
end Go.Proofs.YthemeeiedlbhkaaGreatDoor
