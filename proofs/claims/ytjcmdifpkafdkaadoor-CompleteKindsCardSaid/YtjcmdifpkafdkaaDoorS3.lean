/-
  The second memory as a tree; regions carried out in the text's order. Over any program. Conditions: none.
  Regions whose order is open, carried out in the text's order and checked. Over any program. Conditions: none.
  Regions whose order is open: the checks suffice. Over any program. Conditions: none.
  Panics in the second memory: their values have no address; deferred calls that recover. Over any program. Conditions: none.
  A call's contract over the part of the second memory that it reaches, and what it leaves of the rest; steps that are known. Over any program. Conditions: none.
  Code and calls carried out in the second memory, by a function; and that it is right. Over any program. Conditions: none.
  A function without arguments that the second memory carries out: its contract. Over any program. Conditions: the rows named lie in the world.
  Regions carried out in the text's order, as a relation: for values and memory that are not closed. Over any program. Conditions: none.
  A walk in the second memory: what must be shown so that code, a region, a call come to an end that fits. Over any program. Conditions: none.
  The walk's rules for memory: loads, stores, elements, what is made. Over any program. Conditions: none.
  Steps under other numbers: a call's contract where blocks are numbered otherwise. Over any program. Conditions: none.
  Rows of arguments in the second memory: numbers from 64 on, each any part of a block, only read. Over any program. Conditions: the cells lie there.
-/
import Derived.Test.YtjcmdifpkafdkaaDoorS2
import Derived.RecoverIn
namespace Go.Proofs.YtjcmdifpkafdkaaDoor

noncomputable def tmG (tr : T Value) : Nat → Value := fun t => match tr.get t with | some v => v | none => undef
theorem tmG_put (tr : T Value) (d : Nat) (v : Value) : tmG (tr.put (some v) d) = upd (tmG tr) d v := by
 funext t
 unfold tmG upd
 rw [T.get_put]
 by_cases h : t = d <;> simp [h]
inductive EBlk where
 | b (x : Blk2)
 | loop (state : LoopState) (pending : Option Code) (nt : Nat) (tr : T Value) (params : Array Tmp) (assign body : Code) (defers : Nat)
noncomputable def toB : EBlk → Blk2
 | .b x => x
 | .loop st pe nt tr ps as bo df => .loop st pe nt (tmG tr) ps as bo df
structure EM where
 m : T EBlk
 next : Nat
noncomputable def EM.mem (e : EM) : Mem := ⟨fun b => match e.m.get b with | some x => some (toB x) | none => none, e.next, Abs.no⟩
noncomputable def EM.push (e : EM) (x : EBlk) : EM := ⟨e.m.put (some x) e.next, e.next + 1⟩
noncomputable def EM.put (e : EM) (b : Nat) (x : EBlk) : EM := ⟨e.m.put (some x) b, e.next⟩
noncomputable def EM.kill (e : EM) (b : Nat) : EM := ⟨e.m.put none b, e.next⟩
theorem EM.mem_push (e : EM) (x : EBlk) : (e.push x).mem = e.mem.push (toB x) := by
 unfold EM.mem EM.push Mem.push
 congr 1
 funext b
 simp only [T.get_put]
 by_cases h : b = e.next <;> simp [h]
theorem EM.mem_put (e : EM) (c : Nat) (x : EBlk) : (e.put c x).mem = e.mem.put c (toB x) := by
 unfold EM.mem EM.put Mem.put
 congr 1
 funext b
 simp only [T.get_put]
 by_cases h : b = c <;> simp [h]
theorem EM.mem_kill (e : EM) (c : Nat) : (e.kill c).mem = e.mem.kill c := by
 unfold EM.mem EM.kill Mem.kill
 congr 1
 funext b
 simp only [T.get_put]
 by_cases h : b = c <;> simp [h]
noncomputable def MCmd.appE (e : EM) : MCmd → EM
 | .same => e
 | .push x => e.push (.b x)
 | .put b x => e.put b (.b x)
 | .kpush b x => (e.kill b).push (.b x)
 | .kill b => e.kill b
theorem MCmd.mem_appE (e : EM) (c : MCmd) : (c.appE e).mem = c.app e.mem := by
 cases c with
 | same => rfl
 | push x => exact e.mem_push (.b x)
 | put b x => exact e.mem_put b (.b x)
 | kpush b x => show ((e.kill b).push (.b x)).mem = _; rw [EM.mem_push, EM.mem_kill]; rfl
 | kill b => exact e.mem_kill b

variable {P : Program} {G : Nat} {nt : Nat}
inductive Callee2 where
 | func (f : FuncId) (args : Array Value)
 | yld (l : Nat) (args : List Value)
noncomputable def calleeOf (P : Program) (o : Oper) (ρ : Operand → Value) : Option Callee2 :=
 match o.op with
 | .call c => (match c.callee with
  | .value x => (match ρ x with
   | .func (.func f) fa ca => if plainFn P f then some (.func f (fa ++ c.args.map ρ ++ ca)) else none
   | .func (.yield l) a b => if a.size = 0 ∧ b.size = 0 then some (.yld l (c.args.toList.map ρ)) else none
   | _ => none)
  | .invoke x name => (match ρ x with
   | .iface t u => (match methF P t name with
    | some f => if plainFn P f then some (.func f (#[u] ++ c.args.map ρ)) else none
    | none => none)
   | _ => none)
  | _ => none)
 | _ => none
structure Doer where
 call : FuncId → Array Value → EM → Option (Value × EM)
 yld : Nat → List Value → EM → Option (Bool × EM)
 same : List Nat
structure Doer.Right (D : Doer) (G : Nat) (P : Program) : Prop where
 call : ∀ f args e v e', D.call f args e = some (v, e') → SCall G P f args e.mem v e'.mem
 yld : ∀ (o : Oper) (c : Call) (x : Operand) (ρ : Operand → Value) l e b e', o.op = .call c → c.callee = .value x → ρ x = .func (.yield l) #[] #[] → D.yld l (c.args.toList.map ρ) e = some (b, e') → EOp G P o ρ e.mem (.bool b) e'.mem
 same : ∀ f, hasF f D.same = true → SameFn P f
noncomputable def sameV (D : Doer) (o : Oper) (ρ : Operand → Value) : Option Value :=
 match o.op with
 | .call c => (match c.callee with
  | .value x => (match ρ x, c.args.toList with
   | .func (.func f) a b, [y] => cond (hasF f D.same) (cond (Nat.beq a.size 0) (cond (Nat.beq b.size 0) (some (ρ y)) none) none) none
   | _, _ => none)
  | _ => none)
 | _ => none
noncomputable def opRun (D : Doer) (G : Nat) (P : Program) (e : EM) (o : Oper) (ρ : Operand → Value) : Option (Rec × EM) :=
 match calleeOf P o ρ with
 | some (.func f args) => (match D.call f args e with | some (v, e') => some (.eff v, e') | none => none)
 | some (.yld l args) => (match D.yld l args e with | some (b, e') => some (.eff (.bool b), e') | none => none)
 | none => (match sameV D o ρ with
  | some v => some (.val v, e)
  | none => (match stepOp G P e.mem o ρ with
  | some (.val v) => some (.val v, e)
  | some (.load b off cs v) => some (.load b off cs v, e)
  | some (.make x fm) => some (.make x fm, e.push (.b x))
  | some (.eff v c) => some (.eff v, c.appE e)
  | none => none))
def Rec.Right (G : Nat) (P : Program) (o : Oper) (ρ : Operand → Value) (σ σ' : Mem) : Rec → Prop
 | .skip => False
 | .val v => VOp P o ρ v ∧ σ' = σ
 | .load b off cs v => LOp P o ρ b off cs v ∧ σ' = σ ∧ (∀ μ ρc, ORel μ ρ ρc o.op.operands → ∃ bi, μ b = some bi) ∧ ∃ r, σ.get b = some (.row r) ∧ ∀ (i : Nat) x, cs[i]? = some x → r.cs[off + i]? = some x
 | .make x fm => AOp P o ρ x fm ∧ σ' = σ.push x
 | .eff v => EOp G P o ρ σ v σ'
theorem opRun_right {D : Doer} (hD : D.Right G P) {e e' : EM} {o : Oper} {ρ : Operand → Value} {r : Rec} (hρ : ∀ v, ρ (.const v) = v) (h : opRun D G P e o ρ = some (r, e')) : r.Right G P o ρ e.mem e'.mem := by
 unfold opRun at h
 split at h
 ·rename_i f args hc
  split at h
  ·rename_i v e1 hcall
   cases h
   unfold calleeOf at hc
   split at hc
   ·rename_i c ho
    split at hc
    ·rename_i x hx
     split at hc
     ·rename_i f' fa ca hf
      split at hc
      ·rename_i hp
       cases hc
       exact eop_call ho hx hf hp (hD.call _ _ _ _ _ hcall)
      ·cases hc
     ·split at hc <;> cases hc
     ·cases hc
    ·rename_i x name hx
     split at hc
     ·rename_i t u hf
      split at hc
      ·rename_i f' hm
       split at hc
       ·rename_i hp
        cases hc
        exact eop_invoke ho hx hf hm hp (hD.call _ _ _ _ _ hcall)
       ·cases hc
      ·cases hc
     ·cases hc
    ·cases hc
   ·cases hc
  ·cases h
 ·rename_i l args hc
  split at h
  ·rename_i b e1 hy
   cases h
   unfold calleeOf at hc
   split at hc
   ·rename_i c ho
    split at hc
    ·rename_i x hx
     split at hc
     ·split at hc <;> cases hc
     ·rename_i l' a' b' hf
      split at hc
      ·rename_i hs
       cases hc
       have ha : a' = #[] := Array.eq_empty_of_size_eq_zero hs.1
       have hb : b' = #[] := Array.eq_empty_of_size_eq_zero hs.2
       subst ha hb
       exact hD.yld o c x ρ _ _ _ _ ho hx hf hy
      ·cases hc
     ·cases hc
    ·split at hc
     ·split at hc
      ·split at hc <;> cases hc
      ·cases hc
     ·cases hc
    ·cases hc
   ·cases hc
  ·cases h
 ·split at h
  ·rename_i v hs
   cases h
   unfold sameV at hs
   split at hs
   ·rename_i c ho
    split at hs
    ·rename_i x hc
     split at hs
     ·rename_i f a b y hx ha
      cases h1 : hasF f D.same with
      | false => rw [h1] at hs; cases hs
      | true =>
       cases h2 : Nat.beq a.size 0 with
       | false => rw [h1, h2] at hs; cases hs
       | true =>
        cases h3 : Nat.beq b.size 0 with
        | false => rw [h1, h2, h3] at hs; cases hs
        | true =>
         rw [h1, h2, h3] at hs
         cases hs
         have e1 : a = #[] := Array.eq_empty_of_size_eq_zero (Nat.eq_of_beq_eq_true h2)
         have e2 : b = #[] := Array.eq_empty_of_size_eq_zero (Nat.eq_of_beq_eq_true h3)
         subst e1 e2
         exact ⟨vop_same ho hc hx (by apply Array.ext'; simpa using ha) (hD.same f h1), rfl⟩
     ·cases hs
    ·cases hs
   ·cases hs
  split at h
  ·rename_i v hs; cases h; exact ⟨stepOp_right (G := G) hρ hs, rfl⟩
  ·rename_i b off cs v hs; cases h
   have := stepOp_right (G := G) hρ hs
   exact ⟨this.1, rfl, this.2⟩
  ·rename_i x fm hs; cases h; exact ⟨stepOp_right (G := G) hρ hs, e.mem_push (.b x)⟩
  ·rename_i v c hs; cases h
   have := stepOp_right (G := G) hρ hs
   show EOp _ _ _ _ _ _ _
   rw [MCmd.mem_appE]
   exact this
  ·cases h
theorem Rec.Right.eop {o : Oper} {ρ : Operand → Value} {σ σ' : Mem} {r : Rec} (h : r.Right G P o ρ σ σ') : EOp G P o ρ σ (r.value σ) σ' := by
 cases r with
 | skip => exact h.elim
 | val v => obtain ⟨h1, rfl⟩ := h; exact h1.eop _
 | load b off cs v => obtain ⟨h1, rfl, h3, r, hr, hc⟩ := h; exact h1.eop hr hc h3
 | make x fm => obtain ⟨h1, rfl⟩ := h; exact h1.eop _
 | eff v => exact h
noncomputable def wantedT (ops : Array Oper) (tm : Nat → Value) (o : Oper) : Bool := match o.guard with
 | none => true
 | some (g, want) => match (ops[g]?).bind (·.dst) with
  | some d => (match tm d with | .bool b => b == want | _ => false)
  | none => false
noncomputable def putDst (nt : Nat) (tr : T Value) (v : Value) : Option Nat → Option (T Value)
 | none => some tr
 | some d => cond (Nat.blt d nt) (some (tr.put (some v) d)) none
def opndOk (G : Nat) (o : Oper) : Bool := allA (fun | .const v => closedV 3 v | .global g => cond (Nat.blt g 64) (Nat.blt g G) false | _ => true) o.op.operands
theorem glob_ok {g : Nat} (h : cond (Nat.blt g 64) (Nat.blt g G) false = true) : g < 64 ∧ g < G := by
 cases h1 : Nat.blt g 64 with
 | false => rw [h1] at h; cases h
 | true => rw [h1] at h; exact ⟨by simpa [Nat.blt_eq] using h1, by simpa [Nat.blt_eq] using h⟩
abbrev RegOut := Option (List (Rec × EM) × T Value × EM)
def regCons (x : Rec × EM) : RegOut → RegOut
 | some (rs, tr2, e2) => some (x :: rs, tr2, e2)
 | none => none
def regPut (x : Rec × EM) (ih : T Value → RegOut) : Option (T Value) → RegOut
 | some tr1 => regCons x (ih tr1)
 | none => none
noncomputable def regOp (nt : Nat) (o : Oper) (tr : T Value) (e : EM) (ih : T Value → EM → RegOut) : Option (Rec × EM) → RegOut
 | some (r, e1) => regPut (r, e) (fun tr1 => ih tr1 e1) (putDst nt tr (r.value e.mem) o.dst)
 | none => none
noncomputable def regStep (D : Doer) (G : Nat) (P : Program) (nt : Nat) (ops : Array Oper) (o : Oper) (ih : T Value → EM → RegOut) (tr : T Value) (e : EM) : RegOut :=
 cond (wantedT ops (tmG tr) o) (cond (opndOk G o) (regOp nt o tr e ih (opRun D G P e o (oper2 (tmG tr)))) none) (regPut (.skip, e) (fun tr1 => ih tr1 e) (putDst nt tr undef o.dst))
noncomputable def regRun (D : Doer) (G : Nat) (P : Program) (nt : Nat) (ops : Array Oper) (l : List Oper) : T Value → EM → RegOut :=
 List.rec (motive := fun _ => T Value → EM → RegOut) (fun tr e => some ([], tr, e)) (fun o _ ih tr e => regStep D G P nt ops o ih tr e) l
theorem regRun_cons (D : Doer) (G : Nat) (P : Program) (nt : Nat) (ops : Array Oper) (o : Oper) (l : List Oper) (tr : T Value) (e : EM) : regRun D G P nt ops (o :: l) tr e =
    cond (wantedT ops (tmG tr) o)
      (cond (opndOk G o) (match opRun D G P e o (oper2 (tmG tr)) with
        | some (r, e1) => (match putDst nt tr (r.value e.mem) o.dst with
          | some tr1 => (match regRun D G P nt ops l tr1 e1 with
            | some (rs, tr2, e2) => some ((r, e) :: rs, tr2, e2)
            | none => none)
          | none => none)
        | none => none) none)
      (match putDst nt tr undef o.dst with
        | some tr1 => (match regRun D G P nt ops l tr1 e with
          | some (rs, tr2, e2) => some ((.skip, e) :: rs, tr2, e2)
          | none => none)
        | none => none) := by
  show regStep D G P nt ops o (regRun D G P nt ops l) tr e = _
  unfold regStep
  have h1 : ∀ x : Option (Rec × EM), regOp nt o tr e (regRun D G P nt ops l) x = (match x with
        | some (r, e1) => (match putDst nt tr (r.value e.mem) o.dst with
          | some tr1 => (match regRun D G P nt ops l tr1 e1 with
            | some (rs, tr2, e2) => some ((r, e) :: rs, tr2, e2)
            | none => none)
          | none => none)
        | none => none) := fun x => by
    cases x with
    | none => rfl
    | some x =>
      obtain ⟨r, e1⟩ := x
      simp only [regOp]
      cases putDst nt tr (r.value e.mem) o.dst with
      | none => rfl
      | some tr1 =>
        simp only [regPut]
        cases regRun D G P nt ops l tr1 e1 with
        | none => rfl
        | some y => rfl
  have h2 : ∀ x : Option (T Value), regPut (.skip, e) (fun tr1 => regRun D G P nt ops l tr1 e) x = (match x with
        | some tr1 => (match regRun D G P nt ops l tr1 e with
          | some (rs, tr2, e2) => some ((.skip, e) :: rs, tr2, e2)
          | none => none)
        | none => none) := fun x => by
    cases x with
    | none => rfl
    | some tr1 =>
      simp only [regPut]
      cases regRun D G P nt ops l tr1 e with
      | none => rfl
      | some y => rfl
  rw [h1, h2]
theorem putDst_rel {μ : Mu} {tr tr1 : T Value} {v vc : Value} {d : Option Nat} {a : Act} (h : putDst nt tr v d = some tr1) (ht : TRel μ nt (tmG tr) a.tmps) (hv : VRel μ v vc) : TRel μ nt (tmG tr1) (a.put d vc).tmps := by
 cases d with
 | none => cases h; exact ht
 | some d =>
  simp only [putDst] at h
  cases hb : Nat.blt d nt with
  | false => rw [hb] at h; cases h
  | true =>
   rw [hb] at h
   cases h
   rw [tmG_put]
   exact ht.put (by simpa [Nat.blt_eq] using hb) hv
theorem orel_of {μ : Mu} {σ : Mem} {w : World} {tr : T Value} {a : Act} {o : Oper} (hs : Sim G μ σ w) (ht : TRel μ nt (tmG tr) a.tmps) (h : opndOk G o = true) : ORel μ (oper2 (tmG tr)) a.eval o.op.operands := fun x hx => by
 have := Array.all_eq_true_iff_forall_mem.1 ((allA_eq _ _).symm.trans h) x hx
 cases x with
 | tmp t => exact ht.2 t
 | const v => exact closedV_rel μ 3 v this
 | global g =>
  have h64 := glob_ok this
  obtain ⟨bi, h1, h23⟩ := hs.glob g h64.2
  obtain ⟨h2, h3⟩ := h23 h64.1
  have k := VRel.ptr (μ := μ) g 0 bi h1
  rw [h2, h3] at k
  exact k
 | func f => exact .func _ _ _ _ _ rfl rfl (by simp) rfl (by simp)
theorem wanted_of {μ : Mu} {tr : T Value} {a : Act} {ops : Array Oper} {o : Oper} (ht : TRel μ nt (tmG tr) a.tmps) : Region.wanted o (yielded ops a.tmps) = wantedT ops (tmG tr) o := by
 unfold Region.wanted wantedT
 cases o.guard with
 | none => rfl
 | some gw =>
  obtain ⟨g, want⟩ := gw
  simp only [yielded]
  cases hd : (ops[g]?).bind (·.dst) with
  | none => rfl
  | some d =>
   simp only [Option.bind_some]
   have hv := ht.2 d
   cases hy : a.tmps[d]? with
   | none =>
    have e : a.tmps.getD d undef = undef := by simp [hy]
    rw [e] at hv
    generalize tmG tr d = z at hv
    cases z <;> first | rfl | (exfalso; cases hv; done)
   | some y =>
    have e : a.tmps.getD d undef = y := by simp [hy]
    rw [e] at hv
    generalize tmG tr d = z at hv
    cases hv with
    | flat _ => cases y <;> first | rfl | (simp; done)
    | _ => first | rfl | (simp; done)
theorem regRun_text {D : Doer} (hD : D.Right G P) {ops : Array Oper} {rc : Option Nat} : ∀ (l : List Oper) (j : Nat) (tr : T Value) (e : EM) (rs : List (Rec × EM)) (tr2 : T Value) (e2 : EM), ops.toList.drop j = l → regRun D G P nt ops l tr e = some (rs, tr2, e2) →
    e.mem.next ≤ e2.mem.next ∧ ∀ μ w (a : Act), Sim G μ e.mem w → G ≤ e.mem.next → Fresh μ e.mem e2.mem → TRel μ nt (tmG tr) a.tmps → ∀ Q : Exit → Act → World → Prop, (∀ (a' : Act) w' μ', a'.defers = a.defers → Stp G e.mem μ w e2.mem μ' w' → TRel μ' nt (tmG tr2) a'.tmps → Q .normal a' w') → wpOpsIn (FW rc) 0 P ops Q (List.range' j l.length) a w := by
  intro l
  induction l with
  | nil =>
    intro j tr e rs tr2 e2 hj h
    cases h
    exact ⟨Nat.le_refl _, fun μ w a hs hG _ ht Q hQ => hQ a w μ rfl (Stp.refl hs hG) ht⟩
  | cons o l ih =>
    intro j tr e rs tr2 e2 hj h
    have hjo : ops[j]? = some o := by
      have := congrArg List.head? hj
      rw [List.head?_drop] at this
      simpa using this
    have hj' : ops.toList.drop (j + 1) = l := by
      have := congrArg List.tail hj
      simpa using this
    rw [regRun_cons] at h
    cases hw : wantedT ops (tmG tr) o with
    | false =>
      rw [hw] at h
      simp only [cond_false] at h
      split at h
      · rename_i tr1 hp
        split at h
        · rename_i rs' tr2' e2' hr
          cases h
          obtain ⟨h1, h2⟩ := ih (j + 1) tr1 e rs' tr2 e2 hj' hr
          refine ⟨h1, fun μ w a hs hG hf ht Q hQ => ?_⟩
          rw [List.length_cons, List.range'_succ]
          simp only [wpOpsIn, hjo, wanted_of ht, hw, Bool.false_eq_true, if_false]
          refine ⟨fun _ _ => trivial, h2 μ w _ hs hG hf (putDst_rel hp ht (VRel.undef μ)) Q fun a' w' μ' hd hst htr => hQ a' w' μ' (hd.trans ?_) hst htr⟩
          cases o.dst <;> rfl
        · cases h
      · cases h
    | true =>
      rw [hw] at h
      simp only [cond_true] at h
      cases hk : opndOk G o with
      | false => rw [hk] at h; cases h
      | true =>
        rw [hk] at h
        simp only [cond_true] at h
        split at h
        · rename_i r e1 hop
          split at h
          · rename_i tr1 hp
            split at h
            · rename_i rs' tr2' e2' hr
              cases h
              obtain ⟨h1, h2⟩ := ih (j + 1) tr1 e1 rs' tr2 e2 hj' hr
              have hright := opRun_right hD (fun _ => rfl) hop
              have heop := hright.eop
              refine ⟨Nat.le_trans heop.1 h1, fun μ w a hs hG hf ht Q hQ => ?_⟩
              rw [List.length_cons, List.range'_succ]
              simp only [wpOpsIn, hjo, wanted_of ht, hw, if_true]
              refine heop.2 μ w a hs hG (fun b g1 g2 => hf b g1 (Nat.lt_of_lt_of_le g2 h1)) (orel_of hs ht hk) _ _ (fun vc w1 μ1 s1 hv => ?_) rc
              refine h2 μ1 w1 _ s1.sim (Nat.le_trans hG s1.next) (fun b g1 g2 => ?_) (putDst_rel hp (ht.ext s1.extE) hv) Q fun a' w' μ' hd hst htr => hQ a' w' μ' (hd.trans ?_) (s1.trans hst) htr
              · rw [s1.ext b (.inr g1)]; exact hf b (Nat.le_trans s1.next g1) g2
              · cases o.dst <;> rfl
            · cases h
          · cases h
        · cases h
theorem regRun_pre {D : Doer} (hD : D.Right G P) {ops : Array Oper} {rc : Option Nat} : ∀ (l : List Oper) (j : Nat) (tr : T Value) (e : EM) (rs : List (Rec × EM)) (tr2 : T Value) (e2 : EM) (tl : List Oper), ops.toList.drop j = l ++ tl → regRun D G P nt ops l tr e = some (rs, tr2, e2) →
    e.mem.next ≤ e2.mem.next ∧ ∀ μ w (a : Act), Sim G μ e.mem w → G ≤ e.mem.next → Fresh μ e.mem e2.mem → TRel μ nt (tmG tr) a.tmps → ∀ (Q : Exit → Act → World → Prop) (rest : List Nat), (∀ (a' : Act) w' μ', a'.defers = a.defers → Stp G e.mem μ w e2.mem μ' w' → TRel μ' nt (tmG tr2) a'.tmps → wpOpsIn (FW rc) 0 P ops Q rest a' w') → wpOpsIn (FW rc) 0 P ops Q (List.range' j l.length ++ rest) a w := by
  intro l
  induction l with
  | nil =>
    intro j tr e rs tr2 e2 tl hj h
    cases h
    exact ⟨Nat.le_refl _, fun μ w a hs hG _ ht Q rest hQ => hQ a w μ rfl (Stp.refl hs hG) ht⟩
  | cons o l ih =>
    intro j tr e rs tr2 e2 tl hj h
    have hjo : ops[j]? = some o := by
      have := congrArg List.head? hj
      rw [List.head?_drop] at this
      simpa using this
    have hj' : ops.toList.drop (j + 1) = l ++ tl := by
      have := congrArg List.tail hj
      simpa using this
    rw [regRun_cons] at h
    cases hw : wantedT ops (tmG tr) o with
    | false =>
      rw [hw] at h
      simp only [cond_false] at h
      split at h
      · rename_i tr1 hp
        split at h
        · rename_i rs' tr2' e2' hr
          cases h
          obtain ⟨h1, h2⟩ := ih (j + 1) tr1 e rs' tr2 e2 tl hj' hr
          refine ⟨h1, fun μ w a hs hG hf ht Q rest hQ => ?_⟩
          rw [List.length_cons, List.range'_succ, List.cons_append]
          simp only [wpOpsIn, hjo, wanted_of ht, hw, Bool.false_eq_true, if_false]
          refine ⟨fun _ _ => trivial, h2 μ w _ hs hG hf (putDst_rel hp ht (VRel.undef μ)) Q rest fun a' w' μ' hd hst htr => hQ a' w' μ' (hd.trans ?_) hst htr⟩
          cases o.dst <;> rfl
        · cases h
      · cases h
    | true =>
      rw [hw] at h
      simp only [cond_true] at h
      cases hk : opndOk G o with
      | false => rw [hk] at h; cases h
      | true =>
        rw [hk] at h
        simp only [cond_true] at h
        split at h
        · rename_i r e1 hop
          split at h
          · rename_i tr1 hp
            split at h
            · rename_i rs' tr2' e2' hr
              cases h
              obtain ⟨h1, h2⟩ := ih (j + 1) tr1 e1 rs' tr2 e2 tl hj' hr
              have hright := opRun_right hD (fun _ => rfl) hop
              have heop := hright.eop
              refine ⟨Nat.le_trans heop.1 h1, fun μ w a hs hG hf ht Q rest hQ => ?_⟩
              rw [List.length_cons, List.range'_succ, List.cons_append]
              simp only [wpOpsIn, hjo, wanted_of ht, hw, if_true]
              refine heop.2 μ w a hs hG (fun b g1 g2 => hf b g1 (Nat.lt_of_lt_of_le g2 h1)) (orel_of hs ht hk) _ _ (fun vc w1 μ1 s1 hv => ?_) rc
              refine h2 μ1 w1 _ s1.sim (Nat.le_trans hG s1.next) (fun b g1 g2 => ?_) (putDst_rel hp (ht.ext s1.extE) hv) Q rest fun a' w' μ' hd hst htr => hQ a' w' μ' (hd.trans ?_) (s1.trans hst) htr
              · rw [s1.ext b (.inr g1)]; exact hf b (Nat.le_trans s1.next g1) g2
              · cases o.dst <;> rfl
            · cases h
          · cases h
        · cases h
end Go.Proofs.YtjcmdifpkafdkaaDoor
namespace Go.Proofs.YtjcmdifpkafdkaaDoor
variable {P : Program} {G : Nat} {nt : Nat}

def maskOf (acc : List Nat) (o : Oper) : Nat := o.after.toList.foldl (fun s e => if Region.binds .any e then s ||| 2 ^ e.on ||| acc.getD e.on 0 else s) 0
def masks : List Oper → List Nat → List Nat
 | [], acc => acc
 | o :: l, acc => masks l (acc ++ [maskOf acc o])
theorem maskOf_pre {ops : Array Oper} {acc : List Nat} {o : Oper} {j : Nat} (ho : ops[j]? = some o) (hacc : ∀ k i, (acc.getD k 0).testBit i = true → Pre ops i k) (i : Nat) (h : (maskOf acc o).testBit i = true) : Pre ops i j := by
 have key : ∀ (l : List Edge) (s : Nat), (∀ e ∈ l, e ∈ o.after) → (s.testBit i = true → Pre ops i j) → (l.foldl (fun s e => if Region.binds .any e then s ||| 2 ^ e.on ||| acc.getD e.on 0 else s) s).testBit i = true → Pre ops i j := by
  intro l
  induction l with
  | nil => intro s _ hs h; exact hs h
  | cons e l ih =>
   intro s he hs h
   simp only [List.foldl_cons] at h
   refine ih _ (fun e' he' => he e' (by simp [he'])) (fun h' => ?_) h
   split at h'
   ·rename_i hb
    rw [Nat.testBit_or, Nat.testBit_or] at h'
    simp only [Bool.or_eq_true] at h'
    rcases h' with (h' | h') | h'
    ·exact hs h'
    ·rw [Nat.testBit_two_pow] at h'
     exact .one ho (he e (by simp)) hb (by simpa using h')
    ·exact .two ho (he e (by simp)) hb rfl (hacc e.on i h')
   ·exact hs h'
 exact key o.after.toList 0 (fun e he => by simpa using he) (by simp) h
theorem masks_pre {ops : Array Oper} : ∀ (l : List Oper) (acc : List Nat) (m : Nat), acc.length = m → ops.toList.drop m = l → (∀ k i, (acc.getD k 0).testBit i = true → Pre ops i k) → ∀ k i, ((masks l acc).getD k 0).testBit i = true → Pre ops i k := by
 intro l
 induction l with
 | nil => intro acc m _ _ h; exact h
 | cons o l ih =>
  intro acc m hm hd h
  have ho : ops[m]? = some o := by
   have := congrArg List.head? hd
   rw [List.head?_drop] at this
   simpa using this
  refine ih (acc ++ [maskOf acc o]) (m + 1) (by simp [hm]) (by have := congrArg List.tail hd; simpa using this) fun k i hk => ?_
  rcases Nat.lt_trichotomy k m with h1 | h1 | h1
  ·rw [List.getD_eq_getElem?_getD, List.getElem?_append_left (by omega)] at hk
   exact h k i (by rw [List.getD_eq_getElem?_getD]; exact hk)
  ·subst h1
   rw [List.getD_eq_getElem?_getD, List.getElem?_append_right (by omega)] at hk
   simp [hm] at hk
   exact maskOf_pre ho h i hk
  ·rw [List.getD_eq_getElem?_getD, List.getElem?_eq_none (by simp; omega)] at hk
   simp at hk
def wrOf (ops : Array Oper) (t : Nat) : Option Nat := ops.toList.findIdx? fun o => o.dst == some t
def chkText (G nt : Nat) (ops : Array Oper) (bf : List Nat) : Bool :=
 (List.range ops.size).all fun j => match ops[j]? with
  | none => false
  | some o => allA (fun e => !Region.binds .any e || Nat.blt e.on j) o.after &&
   (match o.dst with | none => true | some d => Nat.blt d nt && (wrOf ops d == some j)) &&
   (o.looksAt ops).all (fun t => match wrOf ops t with
    | none => true
    | some i => (!Nat.blt i j || (bf.getD j 0).testBit i) && (!Nat.blt j i || (bf.getD i 0).testBit j)) &&
   (match o.guard with | none => true | some (g, _) => Nat.blt g j && ((ops[g]?).bind (·.dst)).isSome) &&
   opndOk G o
def effMask : List (Rec × EM) → Nat → Nat
 | [], _ => 0
 | (r, _) :: l, j => (if r.isE then 2 ^ j else 0) ||| effMask l (j + 1)
theorem effMask_bit : ∀ (l : List (Rec × EM)) (m j : Nat), (effMask l m).testBit j = (decide (m ≤ j) && ((l[j - m]?).map (·.1.isE)).getD false)
 | [], m, j => by simp [effMask]
 | (r, e) :: l, m, j => by
  rw [effMask, Nat.testBit_or, effMask_bit l (m + 1) j]
  rcases Nat.lt_trichotomy j m with h | h | h
  ·have : ¬ m ≤ j := by omega
   have h2 : ¬ m + 1 ≤ j := by omega
   have h3 : m ≠ j := by omega
   simp only [this, h2, decide_false, Bool.false_and, Bool.or_false]
   split
   ·rw [Nat.testBit_two_pow]; simp [h3]
   ·simp
  ·subst h
   simp only [Nat.le_refl, decide_true, Nat.sub_self, Bool.true_and]
   have h2 : ¬ j + 1 ≤ j := by omega
   simp only [h2, decide_false, Bool.false_and, Bool.or_false, List.getElem?_cons_zero, Option.map_some, Option.getD_some]
   cases hr : r.isE
   ·simp
   ·simp []
  ·have h1 : m ≤ j := by omega
   have h2 : m + 1 ≤ j := by omega
   have h3 : m ≠ j := by omega
   simp only [h1, h2, decide_true, Bool.true_and]
   rw [show j - m = (j - (m + 1)) + 1 by omega, List.getElem?_cons_succ]
   split
   ·rw [Nat.testBit_two_pow]; simp [h3]
   ·simp
def lastE (em : Nat) : Nat → Option Nat
 | 0 => none
 | j + 1 => if em.testBit j then some j else lastE em j
def firstE (em n : Nat) : Nat → Nat → Option Nat
 | 0, _ => none
 | f + 1, j => if j < n then (if em.testBit j then some j else firstE em n f (j + 1)) else none
def chkEff (bf : List Nat) (em n : Nat) : Bool :=
 (List.range n).all fun j => !em.testBit j || (match lastE em j with | none => true | some i => (bf.getD j 0).testBit i)
def fixedAt (bf : List Nat) (em n j : Nat) : Bool :=
 (match lastE em j with | none => true | some i => (bf.getD j 0).testBit i) && (match firstE em n (n - j) (j + 1) with | none => true | some i => (bf.getD i 0).testBit j)
theorem lastE_spec {em : Nat} : ∀ {j i : Nat}, lastE em j = some i → i < j ∧ em.testBit i = true ∧ ∀ k, i < k → k < j → em.testBit k = false := by
 intro j
 induction j with
 | zero => intro i h; cases h
 | succ j ih =>
  intro i h
  simp only [lastE] at h
  split at h
  ·rename_i hb; cases h; exact ⟨by omega, hb, fun k h1 h2 => by omega⟩
  ·rename_i hb
   obtain ⟨h1, h2, h3⟩ := ih h
   refine ⟨by omega, h2, fun k h4 h5 => ?_⟩
   rcases Nat.lt_or_ge k j with h6 | h6
   ·exact h3 k h4 h6
   ·obtain rfl : k = j := by omega
    simpa using hb
theorem lastE_none {em : Nat} : ∀ {j : Nat}, lastE em j = none → ∀ k, k < j → em.testBit k = false := by
 intro j
 induction j with
 | zero => intro _ k h; omega
 | succ j ih =>
  intro h k hk
  simp only [lastE] at h
  split at h
  ·cases h
  ·rename_i hb
   rcases Nat.lt_or_ge k j with h6 | h6
   ·exact ih h k h6
   ·obtain rfl : k = j := by omega
    simpa using hb
theorem firstE_spec {em n : Nat} : ∀ {f j i : Nat}, firstE em n f j = some i → j ≤ i ∧ i < n ∧ em.testBit i = true ∧ ∀ k, j ≤ k → k < i → em.testBit k = false := by
 intro f
 induction f with
 | zero => intro j i h; cases h
 | succ f ih =>
  intro j i h
  simp only [firstE] at h
  split at h
  ·rename_i hn
   split at h
   ·rename_i hb; cases h; exact ⟨by omega, hn, hb, fun k h1 h2 => by omega⟩
   ·rename_i hb
    obtain ⟨h1, h2, h3, h4⟩ := ih h
    refine ⟨by omega, h2, h3, fun k h5 h6 => ?_⟩
    rcases Nat.lt_or_ge j k with h7 | h7
    ·exact h4 k h7 h6
    ·obtain rfl : k = j := by omega
     simpa using hb
  ·cases h
theorem firstE_none {em n : Nat} : ∀ {f j : Nat}, n ≤ j + f → firstE em n f j = none → ∀ k, j ≤ k → k < n → em.testBit k = false := by
 intro f
 induction f with
 | zero => intro j hf _ k h1 h2; omega
 | succ f ih =>
  intro j hf h k h1 h2
  simp only [firstE] at h
  split at h
  ·split at h
   ·cases h
   ·rename_i hb
    rcases Nat.lt_or_ge j k with h7 | h7
    ·exact ih (by omega) h k h7 h2
    ·obtain rfl : k = j := by omega
     simpa using hb
  ·omega
def eqV : Nat → Value → Value → Bool
 | _, .bool a, .bool b => a == b
 | _, .int j a, .int k b => j == k && a == b
 | _, .string a, .string b => a.data.toList == b.data.toList
 | _, .pointer a, .pointer b => a == b
 | _, .slice a n c, .slice b m d => a == b && n == m && c == d
 | _, .map a, .map b => a == b
 | _, .nilIface, .nilIface => true
 | _, .nilFunc, .nilFunc => true
 | n + 1, .iface t v, .iface u w => t == u && eqV n v w
 | n + 1, .agg a, .agg b => (a.size == b.size && (a.toList.zip b.toList).all fun x => eqV n x.1 x.2)
 | n + 1, .tuple a, .tuple b => (a.size == b.size && (a.toList.zip b.toList).all fun x => eqV n x.1 x.2)
 | n + 1, .func f a c, .func g b d => f == g && (a.size == b.size && (a.toList.zip b.toList).all fun x => eqV n x.1 x.2) && (c.size == d.size && (c.toList.zip d.toList).all fun x => eqV n x.1 x.2)
 | _, _, _ => false
theorem eqA_eq {n : Nat} (ih : ∀ a b, eqV n a b = true → a = b) {a b : Array Value} (h : (a.size == b.size && (a.toList.zip b.toList).all fun x => eqV n x.1 x.2) = true) : a = b := by
 simp only [Bool.and_eq_true, beq_iff_eq] at h
 apply Array.ext h.1
 intro i h1 h2
 have hz : (a.toList.zip b.toList)[i]? = some (a[i], b[i]) := by
  rw [List.getElem?_zip_eq_some]
  simp [h1, h2]
 exact ih _ _ (List.all_eq_true.1 h.2 _ (List.mem_of_getElem? hz))
theorem eqV_eq : ∀ (n : Nat) (a b : Value), eqV n a b = true → a = b := by
 intro n
 induction n with
 | zero =>
  intro a b h
  cases a <;> cases b <;> first | (simp [eqV] at h; done) | skip
  all_goals first | (simp [eqV] at h; simp [h]; done) | skip
  ·rename_i s t
   simp only [eqV, beq_iff_eq] at h
   have : s.data = t.data := Array.ext' h
   cases s; cases t; simp at this; rw [this]
  all_goals rfl
 | succ n ih =>
  intro a b h
  cases a <;> cases b <;> first | (simp [eqV] at h; done) | skip
  all_goals first | (simp [eqV] at h; simp [h]; done) | skip
  ·rename_i s t
   simp only [eqV, beq_iff_eq] at h
   have : s.data = t.data := Array.ext' h
   cases s; cases t; simp at this; rw [this]
  ·simp only [eqV, Bool.and_eq_true (_ && _) (_ && _)] at h
   rw [Bool.and_eq_true] at h
   obtain ⟨⟨h1, h2⟩, h3⟩ := h
   rw [eqA_eq ih h2, eqA_eq ih h3, eq_of_beq h1]
  ·simp only [eqV, Bool.and_eq_true, beq_iff_eq] at h
   rw [h.1, ih _ _ h.2]
  ·rw [eqV] at h
   rw [eqA_eq ih h]
  ·rw [eqV] at h
   rw [eqA_eq ih h]
def eqL : List Value → List Value → Bool
 | [], [] => true
 | a :: l, b :: m => eqV 2 a b && eqL l m
 | _, _ => false
theorem eqL_eq : ∀ (a b : List Value), eqL a b = true → a = b
 | [], [], _ => rfl
 | a :: l, b :: m, h => by simp only [eqL, Bool.and_eq_true] at h; rw [eqV_eq 2 _ _ h.1, eqL_eq l m h.2]
 | [], _ :: _, h => by cases h
 | _ :: _, [], h => by cases h
noncomputable def mkRun (G : Nat) (P : Program) (ops : Array Oper) (ta : Nat → Value) (nt : Nat) (rs : List (Rec × EM)) (e2 : EM) : Run G P ops ta nt where
 did := fun j => match rs[j]? with | some (r, _) => r | none => .skip
 mem := fun j => match rs[j]? with | some (_, e) => e.mem | none => e2.mem
 wr := wrOf ops
theorem regRun_head {D : Doer} {ops : Array Oper} {l : List Oper} {tr tr2 : T Value} {e e2 : EM} {rs : List (Rec × EM)} (h : regRun D G P nt ops l tr e = some (rs, tr2, e2)) : (match rs with | [] => e2 = e | (_, e') :: _ => e' = e) ∧ rs.length = l.length := by
 induction l generalizing tr e rs with
 | nil => cases h; exact ⟨rfl, rfl⟩
 | cons o l ih =>
  rw [regRun_cons] at h
  cases hw : wantedT ops (tmG tr) o with
  | false =>
   rw [hw] at h
   simp only [cond_false] at h
   split at h
   ·split at h
    ·rename_i hr; cases h; exact ⟨rfl, by simp [(ih hr).2]⟩
    ·cases h
   ·cases h
  | true =>
   rw [hw] at h
   simp only [cond_true] at h
   cases hk : opndOk G o with
   | false => rw [hk] at h; cases h
   | true =>
    rw [hk] at h
    simp only [cond_true] at h
    split at h
    ·split at h
     ·split at h
      ·rename_i hr; cases h; exact ⟨rfl, by simp [(ih hr).2]⟩
      ·cases h
     ·cases h
    ·cases h
section
variable {ops : Array Oper} {bf : List Nat}
theorem chkText_at (h : chkText G nt ops bf = true) {j : Nat} {o : Oper} (ho : ops[j]? = some o) :
    (∀ e ∈ o.after, Region.binds .any e = true → e.on < j) ∧ (∀ d, o.dst = some d → d < nt ∧ wrOf ops d = some j) ∧
    (∀ t ∈ o.looksAt ops, ∀ i, wrOf ops t = some i → (i < j → (bf.getD j 0).testBit i = true) ∧ (j < i → (bf.getD i 0).testBit j = true)) ∧
    (∀ g w, o.guard = some (g, w) → g < j ∧ ((ops[g]?).bind (·.dst)).isSome = true) ∧ opndOk G o = true := by
  have hj : j < ops.size := (Array.getElem?_eq_some_iff.1 ho).1
  have := List.all_eq_true.1 h j (List.mem_range.2 hj)
  simp only [ho, Bool.and_eq_true] at this
  obtain ⟨⟨⟨⟨h1, h2⟩, h3⟩, h4⟩, h5⟩ := this
  refine ⟨fun e he hb => ?_, fun d hd => ?_, fun t ht i hi => ?_, fun g w hg => ?_, h5⟩
  · have := Array.all_eq_true_iff_forall_mem.1 ((allA_eq _ _).symm.trans h1) e he
    simpa [hb, Nat.blt_eq] using this
  · rw [hd] at h2
    simpa [Nat.blt_eq] using h2
  · have := List.all_eq_true.1 h3 t ht
    rw [hi] at this
    simp only [Bool.and_eq_true, Bool.or_eq_true, Bool.not_eq_true'] at this
    refine ⟨fun hl => this.1.resolve_left ?_, fun hl => this.2.resolve_left ?_⟩
    · intro hb; have : Nat.blt i j = true := by rw [Nat.blt_eq]; exact hl
      rw [this] at hb; cases hb
    · intro hb; have : Nat.blt j i = true := by rw [Nat.blt_eq]; exact hl
      rw [this] at hb; cases hb
  · rw [hg] at h4
    simpa [Nat.blt_eq] using h4
theorem wrOf_some {t i : Nat} (h : wrOf ops t = some i) : ∃ o, ops[i]? = some o ∧ o.dst = some t := by
 unfold wrOf at h
 rw [List.findIdx?_eq_some_iff_getElem] at h
 obtain ⟨hi, h1, _⟩ := h
 exact ⟨ops.toList[i], by simp [show i < ops.size by simpa using hi], by simpa using h1⟩
theorem tm_succ (h : chkText G nt ops bf = true) {ta : Nat → Value} {rs : List (Rec × EM)} {e2 : EM} {j : Nat} {o : Oper} (ho : ops[j]? = some o) :
    (mkRun G P ops ta nt rs e2).tm (j + 1) = match o.dst with | some d => upd ((mkRun G P ops ta nt rs e2).tm j) d ((mkRun G P ops ta nt rs e2).val j) | none => (mkRun G P ops ta nt rs e2).tm j := by
  obtain ⟨_, h2, _⟩ := chkText_at h ho
  funext t
  unfold Run.tm
  show (match wrOf ops t with | some i => _ | none => _) = _
  cases hw : wrOf ops t with
  | none =>
    cases hd : o.dst with
    | none => simp only; show _ = (match wrOf ops t with | some i => _ | none => _); rw [hw]
    | some d =>
      have : t ≠ d := fun e => by rw [e, (h2 d hd).2] at hw; cases hw
      simp only [upd, this, if_false]
      show _ = (match wrOf ops t with | some i => _ | none => _)
      rw [hw]
  | some i =>
    by_cases hij : i = j
    · subst hij
      obtain ⟨oi, hoi, hdi⟩ := wrOf_some hw
      rw [ho] at hoi
      cases hoi
      simp [hdi, upd]
    · have key : (i < j + 1) ↔ i < j := by omega
      simp only [key]
      cases hd : o.dst with
      | none => simp only; show _ = (match wrOf ops t with | some i => _ | none => _); rw [hw]
      | some d =>
        have : t ≠ d := fun e => by
          rw [e, (h2 d hd).2] at hw
          cases hw
          exact hij rfl
        simp only [upd, this, if_false]
        show _ = (match wrOf ops t with | some i => _ | none => _)
        rw [hw]
theorem regRun_ops {D : Doer} (hD : D.Right G P) (hc : chkText G nt ops bf = true) {ta : Nat → Value} {rs0 : List (Rec × EM)} {e20 : EM} : ∀ (l : List Oper) (j : Nat) (tr : T Value) (e : EM) (rs : List (Rec × EM)) (tr2 : T Value), ops.toList.drop j = l → rs0.drop j = rs → regRun D G P nt ops l tr e = some (rs, tr2, e20) → rs0.length = ops.size → tmG tr = (mkRun G P ops ta nt rs0 e20).tm j →
    (∀ k o, j ≤ k → ops[k]? = some o → ((mkRun G P ops ta nt rs0 e20).wanted k o = false ∧ (mkRun G P ops ta nt rs0 e20).did k = .skip ∧ (mkRun G P ops ta nt rs0 e20).mem (k + 1) = (mkRun G P ops ta nt rs0 e20).mem k) ∨
      ((mkRun G P ops ta nt rs0 e20).wanted k o = true ∧ ((mkRun G P ops ta nt rs0 e20).did k).Right G P o (oper2 ((mkRun G P ops ta nt rs0 e20).tm k)) ((mkRun G P ops ta nt rs0 e20).mem k) ((mkRun G P ops ta nt rs0 e20).mem (k + 1)))) ∧ tmG tr2 = (mkRun G P ops ta nt rs0 e20).tm ops.size := by
  intro l
  induction l with
  | nil =>
    intro j tr e rs tr2 hj hrs h hlen htm
    cases h
    have hjn : ops.size ≤ j := by have := congrArg List.length hj; simp at this; omega
    have : (mkRun G P ops ta nt rs0 e20).tm ops.size = (mkRun G P ops ta nt rs0 e20).tm j := by
      funext t
      unfold Run.tm
      show (match wrOf ops t with | some i => _ | none => _) = (match wrOf ops t with | some i => _ | none => _)
      cases hw : wrOf ops t with
      | none => rfl
      | some i =>
        obtain ⟨oi, hoi, _⟩ := wrOf_some hw
        have hi := (Array.getElem?_eq_some_iff.1 hoi).1
        simp only [hi, show i < j by omega, if_true]
    refine ⟨fun k o hk ho => ?_, by rw [this]; exact htm⟩
    have := (Array.getElem?_eq_some_iff.1 ho).1
    omega
  | cons o l ih =>
    intro j tr e rs tr2 hj hrs h hlen htm
    have hjo : ops[j]? = some o := by
      have := congrArg List.head? hj
      rw [List.head?_drop] at this
      simpa using this
    have hj' : ops.toList.drop (j + 1) = l := by have := congrArg List.tail hj; simpa using this
    have mem_at : ∀ {r : Rec} {e' : EM} {rest : List (Rec × EM)}, rs = (r, e') :: rest → (mkRun G P ops ta nt rs0 e20).did j = r ∧ (mkRun G P ops ta nt rs0 e20).mem j = e'.mem := fun {r e' rest} hr => by
      have hg : rs0[j]? = some (r, e') := by
        have := congrArg List.head? hrs
        rw [List.head?_drop, hr] at this
        simpa using this
      simp [mkRun, hg]
    have mem_next : ∀ {tr1 tr2' : T Value} {e1 : EM} {rest : List (Rec × EM)}, rs0.drop (j + 1) = rest → regRun D G P nt ops l tr1 e1 = some (rest, tr2', e20) → (mkRun G P ops ta nt rs0 e20).mem (j + 1) = e1.mem := fun {tr1 tr2' e1 rest} hd hr => by
      have hh := (regRun_head hr).1
      cases rest with
      | nil =>
        have hg : rs0[j + 1]? = none := by
          have := congrArg List.head? hd
          rw [List.head?_drop] at this
          simpa using this
        simp only at hh
        simp [mkRun, hg, hh]
      | cons x xs =>
        obtain ⟨rx, ex⟩ := x
        have hg : rs0[j + 1]? = some (rx, ex) := by
          have := congrArg List.head? hd
          rw [List.head?_drop] at this
          simpa using this
        simp only at hh
        simp [mkRun, hg, hh]
    have tm_next : ∀ {tr1 : T Value} {v : Value}, putDst nt tr v o.dst = some tr1 → (mkRun G P ops ta nt rs0 e20).val j = v → tmG tr1 = (mkRun G P ops ta nt rs0 e20).tm (j + 1) := fun {tr1 v} hp hv => by
      rw [tm_succ hc hjo, hv]
      cases hd : o.dst with
      | none => rw [hd] at hp; cases hp; exact htm
      | some d =>
        rw [hd] at hp
        simp only [putDst] at hp
        cases hb : Nat.blt d nt with
        | false => rw [hb] at hp; cases hp
        | true => rw [hb] at hp; cases hp; rw [tmG_put, htm]
    have hwt : ∀ k : Nat, (mkRun G P ops ta nt rs0 e20).wanted k o = wantedT ops ((mkRun G P ops ta nt rs0 e20).tm k) o := fun _ => rfl
    rw [regRun_cons] at h
    cases hw : wantedT ops (tmG tr) o with
    | false =>
      rw [hw] at h
      simp only [cond_false] at h
      split at h
      · rename_i tr1 hp
        split at h
        · rename_i rs' tr2' e2' hr
          cases h
          obtain ⟨hdid, hmem⟩ := mem_at rfl
          have hdr : rs0.drop (j + 1) = rs' := by have := congrArg List.tail hrs; simpa using this
          obtain ⟨g1, g2⟩ := ih (j + 1) tr1 e rs' tr2 hj' hdr hr hlen (tm_next hp (by unfold Run.val; rw [hdid]; rfl))
          refine ⟨fun k o' hk ho' => ?_, g2⟩
          rcases Nat.lt_or_ge j k with h1 | h1
          · exact g1 k o' h1 ho'
          · obtain rfl : k = j := by omega
            rw [hjo] at ho'
            cases ho'
            exact .inl ⟨by rw [hwt, ← htm]; exact hw, hdid, by rw [mem_next hdr hr, hmem]⟩
        · cases h
      · cases h
    | true =>
      rw [hw] at h
      simp only [cond_true] at h
      cases hk : opndOk G o with
      | false => rw [hk] at h; cases h
      | true =>
        rw [hk] at h
        simp only [cond_true] at h
        split at h
        · rename_i r e1 hop
          split at h
          · rename_i tr1 hp
            split at h
            · rename_i rs' tr2' e2' hr
              cases h
              obtain ⟨hdid, hmem⟩ := mem_at rfl
              have hdr : rs0.drop (j + 1) = rs' := by have := congrArg List.tail hrs; simpa using this
              obtain ⟨g1, g2⟩ := ih (j + 1) tr1 e1 rs' tr2 hj' hdr hr hlen (tm_next hp (by unfold Run.val; rw [hdid, hmem]))
              refine ⟨fun k o' hk' ho' => ?_, g2⟩
              rcases Nat.lt_or_ge j k with h1 | h1
              · exact g1 k o' h1 ho'
              · obtain rfl : k = j := by omega
                rw [hjo] at ho'
                cases ho'
                refine .inr ⟨by rw [hwt, ← htm]; exact hw, ?_⟩
                rw [hdid, hmem, mem_next hdr hr, ← htm]
                exact opRun_right hD (fun _ => rfl) hop
            · cases h
          · cases h
        · cases h
end
end Go.Proofs.YtjcmdifpkafdkaaDoor
namespace Go.Proofs.YtjcmdifpkafdkaaDoor
variable {P : Program} {G : Nat} {nt : Nat} {ops : Array Oper} {bf : List Nat}

noncomputable def stagesE : List (Rec × EM) → Nat → Nat → EM → List (Nat × EM)
 | [], _, n, e2 => [(n, e2)]
 | (r, e) :: l, j, n, e2 => cond r.isE ((j, e) :: stagesE l (j + 1) n e2) (stagesE l (j + 1) n e2)
theorem stagesE_end (n : Nat) (e2 : EM) : ∀ (l : List (Rec × EM)) (j : Nat), (n, e2) ∈ stagesE l j n e2
 | [], j => by simp [stagesE]
 | (r, e) :: l, j => by
  simp only [stagesE]
  cases r.isE
  ·exact stagesE_end n e2 l (j + 1)
  ·exact List.mem_cons_of_mem _ (stagesE_end n e2 l (j + 1))
theorem stagesE_at {n : Nat} {e2 : EM} : ∀ (l : List (Rec × EM)) (j k : Nat) (r : Rec) (e : EM), l[k]? = some (r, e) → r.isE = true → (j + k, e) ∈ stagesE l j n e2
 | [], j, k, r, e, h, _ => by simp at h
 | (r0, e0) :: l, j, 0, r, e, h, hr => by
  simp at h
  obtain ⟨rfl, rfl⟩ := h
  simp [stagesE, hr]
 | (r0, e0) :: l, j, k + 1, r, e, h, hr => by
  have := stagesE_at (n := n) (e2 := e2) l (j + 1) k r e (by simpa using h) hr
  rw [show j + 1 + k = j + (k + 1) by omega] at this
  simp only [stagesE]
  cases r0.isE
  ·exact this
  ·exact List.mem_cons_of_mem _ this
def mayMeet (bf : List Nat) (em n j J : Nat) : Bool := (List.range n).all fun e => !em.testBit e || (if e < J then !(bf.getD e 0).testBit j else !(bf.getD j 0).testBit e)
noncomputable def sameRow (e : EM) (b : Nat) (r : Row) : Bool := match e.mem.get b with | some (.row r') => eqL r'.cs r.cs && (r'.t == r.t && r'.g == r.g) | _ => false
def upperFixed (bf : List Nat) (em n j : Nat) : Bool := match firstE em n (n - j) (j + 1) with | none => true | some i => (bf.getD i 0).testBit j
noncomputable def chkDyn (bf : List Nat) (em n : Nat) (st : List (Nat × EM)) : List (Rec × EM) → Nat → Bool
  | [], _ => true
  | (r, e) :: l, j => (match r with
      | .load b _ _ _ => fixedAt bf em n j || (match e.mem.get b with | some (.row r) => st.all fun s => !mayMeet bf em n j s.1 || sameRow s.2 b r | _ => false)
      | .make x _ => upperFixed bf em n j || (match x with | .row r => st.all fun s => !(Nat.blt j s.1 && mayMeet bf em n j s.1) || sameRow s.2 e.next r | _ => false)
      | _ => true) && chkDyn bf em n st l (j + 1)
theorem chkDyn_at {em n : Nat} {st : List (Nat × EM)} : ∀ (l : List (Rec × EM)) (m j : Nat) (r : Rec) (e : EM), chkDyn bf em n st l m = true → l[j]? = some (r, e) → (match r with
      | .load b _ _ _ => fixedAt bf em n (m + j) || (match e.mem.get b with | some (.row r) => st.all fun s => !mayMeet bf em n (m + j) s.1 || sameRow s.2 b r | _ => false)
      | .make x _ => upperFixed bf em n (m + j) || (match x with | .row r => st.all fun s => !(Nat.blt (m + j) s.1 && mayMeet bf em n (m + j) s.1) || sameRow s.2 e.next r | _ => false)
      | _ => true) = true
  | [], m, j, r, e, _, h => by simp at h
  | (r0, e0) :: l, m, 0, r, e, h, hj => by
    simp at hj
    obtain ⟨rfl, rfl⟩ := hj
    simp only [chkDyn, Bool.and_eq_true] at h
    simpa using h.1
  | (r0, e0) :: l, m, j + 1, r, e, h, hj => by
    simp only [chkDyn, Bool.and_eq_true] at h
    have := chkDyn_at l (m + 1) j r e h.2 (by simpa using hj)
    rw [show m + 1 + j = m + (j + 1) by omega] at this
    simpa using this
theorem Pre.trans {i k j : Nat} (h : Pre ops i k) (h' : Pre ops k j) : Pre ops i j := by
 induction h' with
 | one ho he hb hk => exact .two ho he hb hk h
 | two ho he hb hk _ ih => exact .two ho he hb hk ih
theorem sameRow_get {e : EM} {b : Nat} {r : Row} (h : sameRow e b r = true) : e.mem.get b = some (.row r) := by
 unfold sameRow at h
 split at h
 ·rename_i r' hr
  simp only [Bool.and_eq_true, beq_iff_eq] at h
  rw [hr]
  have h1 := eqL_eq _ _ h.1
  cases r'
  cases r
  simp only at h1 h
  rw [h1, h.2.1, h.2.2]
 ·cases h
theorem run_ok {D : Doer} (hD : D.Right G P) {tr tr2 : T Value} {e e2 : EM} {rs : List (Rec × EM)} (hbf : bf = masks ops.toList []) (hc : chkText G nt ops bf = true) (hr : regRun D G P nt ops ops.toList tr e = some (rs, tr2, e2)) (he : chkEff bf (effMask rs 0) ops.size = true) (hd : chkDyn bf (effMask rs 0) ops.size (stagesE rs 0 ops.size e2) rs 0 = true) (hG : G ≤ e.mem.next) :
    (mkRun G P ops (tmG tr) nt rs e2).Ok ∧ (mkRun G P ops (tmG tr) nt rs e2).mem 0 = e.mem ∧ (mkRun G P ops (tmG tr) nt rs e2).mem ops.size = e2.mem ∧ (mkRun G P ops (tmG tr) nt rs e2).tm ops.size = tmG tr2 := by
  obtain ⟨hhead, hlen⟩ := regRun_head hr
  have hlen' : rs.length = ops.size := by simpa using hlen
  have bit : ∀ k i, (bf.getD k 0).testBit i = true → Pre ops i k := by
    rw [hbf]
    exact masks_pre ops.toList [] 0 rfl rfl (by simp)
  have htm0 : tmG tr = (mkRun G P ops (tmG tr) nt rs e2).tm 0 := by
    funext t
    unfold Run.tm
    show _ = (match wrOf ops t with | some i => _ | none => _)
    cases wrOf ops t <;> simp
  obtain ⟨hops, htm⟩ := regRun_ops hD hc (ta := tmG tr) (rs0 := rs) (e20 := e2) ops.toList 0 tr e rs tr2 rfl rfl hr hlen' htm0
  have mem0 : (mkRun G P ops (tmG tr) nt rs e2).mem 0 = e.mem := by
    cases rs with
    | nil => simp only at hhead; simp [mkRun, hhead]
    | cons x xs => obtain ⟨r, e'⟩ := x; simp only at hhead; simp [mkRun, hhead]
  have memn : (mkRun G P ops (tmG tr) nt rs e2).mem ops.size = e2.mem := by
    have : rs[ops.size]? = none := List.getElem?_eq_none (by omega)
    simp [mkRun, this]
  have isE : ∀ j, ((mkRun G P ops (tmG tr) nt rs e2).did j).isE = (effMask rs 0).testBit j := fun j => by
    rw [effMask_bit]
    simp only [Nat.zero_le, decide_true, Bool.true_and, Nat.sub_zero]
    simp only [mkRun]
    cases rs[j]? with
    | none => rfl
    | some x => rfl
  generalize hR : mkRun G P ops (tmG tr) nt rs e2 = R at hops htm mem0 memn isE
  have hwr : R.wr = wrOf ops := by rw [← hR]; rfl
  have did_at : ∀ j r e', rs[j]? = some (r, e') → R.did j = r ∧ R.mem j = e'.mem := fun j r e' h => by rw [← hR]; simp [mkRun, h]
  -- the effects are in order
  have ord : ∀ j i, i < j → j < ops.size → (R.did i).isE = true → (R.did j).isE = true → Pre ops i j := by
    intro j
    induction j using Nat.strongRecOn with
    | _ j ih =>
      intro i hij hj hi hj'
      have := List.all_eq_true.1 he j (List.mem_range.2 hj)
      rw [isE] at hj' hi
      rw [hj'] at this
      simp only [Bool.not_true, Bool.false_or] at this
      split at this
      · rename_i hn
        have := lastE_none hn i hij
        rw [this] at hi
        cases hi
      · rename_i i' hl
        obtain ⟨g1, g2, g3⟩ := lastE_spec hl
        have hp := bit _ _ this
        rcases Nat.lt_trichotomy i i' with h1 | h1 | h1
        · exact (ih i' g1 i h1 (by omega) (by rw [isE]; exact hi) (by rw [isE]; exact g2)).trans hp
        · rw [h1]; exact hp
        · have := g3 i h1 hij
          rw [this] at hi
          cases hi
  -- memory of a stage
  have stage_mem : ∀ J, R.Stage J → ∃ e', (J, e') ∈ stagesE rs 0 ops.size e2 ∧ R.mem J = e'.mem := fun J hJ => by
    rcases hJ with rfl | ⟨h1, h2⟩
    · exact ⟨e2, stagesE_end _ _ _ _, memn⟩
    · have hlt : J < rs.length := by omega
      obtain ⟨g1, g2⟩ := did_at J rs[J].1 rs[J].2 (by simp [hlt])
      refine ⟨rs[J].2, ?_, g2⟩
      have := stagesE_at (n := ops.size) (e2 := e2) rs 0 J rs[J].1 rs[J].2 (by simp [hlt]) (by rw [← g1]; exact h2)
      simpa using this
  have meets : ∀ j J, R.Meets j J → mayMeet bf (effMask rs 0) ops.size j J = true := fun j J ⟨_, h1, h2⟩ => by
    unfold mayMeet
    rw [List.all_eq_true]
    intro e he
    have he := List.mem_range.1 he
    simp only [Bool.or_eq_true, Bool.not_eq_true']
    cases hE : (effMask rs 0).testBit e with
    | false => exact .inl rfl
    | true =>
      refine .inr ?_
      have hE' : (R.did e).isE = true := by rw [isE]; exact hE
      split
      · rename_i hlt
        cases hb : (bf.getD e 0).testBit j with
        | false => rfl
        | true => exact absurd (bit _ _ hb) (h1 e hlt hE')
      · rename_i hlt
        cases hb : (bf.getD j 0).testBit e with
        | false => rfl
        | true => exact absurd (h2 e he hE' (bit _ _ hb)) hlt
  -- steps without effects leave what lies there
  have step : ∀ k, k < ops.size → (R.did k).isE = false → R.mem (k + 1) = R.mem k ∨ ∃ x fm, R.did k = .make x fm ∧ R.mem (k + 1) = (R.mem k).push x := fun k hk hn => by
    rcases hops k ops[k] (Nat.zero_le _) (by simp [hk]) with ⟨_, _, h⟩ | ⟨_, h⟩
    · exact .inl h
    · cases hd : R.did k <;> rw [hd] at h hn <;> simp only [Rec.Right, Rec.isE] at h hn
      · exact .inl h.2
      · exact .inl h.2.1
      · exact .inr ⟨_, _, rfl, h.2⟩
      · cases hn
  have calm : ∀ (d j : Nat), j + d ≤ ops.size → (∀ k, j ≤ k → k < j + d → (R.did k).isE = false) → ∀ b, b < (R.mem j).next → (R.mem (j + d)).get b = (R.mem j).get b ∧ b < (R.mem (j + d)).next := by
    intro d
    induction d with
    | zero => intro j _ _ b hb; exact ⟨rfl, hb⟩
    | succ d ih =>
      intro j hj hn b hb
      obtain ⟨h1, h2⟩ := ih j (by omega) (fun k a c => hn k a (by omega)) b hb
      rcases step (j + d) (by omega) (hn _ (by omega) (by omega)) with h | ⟨x, fm, _, h⟩
      · rw [show j + (d + 1) = j + d + 1 by omega, h]; exact ⟨h1, h2⟩
      · rw [show j + (d + 1) = j + d + 1 by omega, h, Mem.push_get, if_neg (by omega)]
        exact ⟨h1, by simp [Mem.push]; omega⟩
  -- the natural stage
  have natural : ∀ j J, j < ops.size → (R.did j).isE = false → upperFixed bf (effMask rs 0) ops.size j = true → j < J → R.Meets j J → ∀ k, j ≤ k → k < J → (R.did k).isE = false := fun j J hj hjE hu hjJ hM k hk1 hk2 => by
    obtain ⟨hSt, hM1, hM2⟩ := hM
    have hJn : J ≤ ops.size := by rcases hSt with h | h <;> omega
    cases hkE : (R.did k).isE with
    | false => rfl
    | true =>
      exfalso
      have hjk : j < k := by
        rcases Nat.lt_or_ge j k with h | h
        · exact h
        · obtain rfl : k = j := by omega
          rw [hjE] at hkE; cases hkE
      unfold upperFixed at hu
      split at hu
      · rename_i hn
        have := firstE_none (by omega) hn k (by omega) (by omega)
        rw [← isE, hkE] at this
        cases this
      · rename_i i hf
        obtain ⟨g1, g2, g3, g4⟩ := firstE_spec hf
        have hik : i ≤ k := by
          rcases Nat.lt_or_ge k i with h | h
          · have := g4 k (by omega) h
            rw [← isE, hkE] at this
            cases this
          · exact h
        exact hM1 i (by omega) (by rw [isE]; exact g3) (bit _ _ hu)
  refine ⟨⟨fun t i => ?_, fun j o ho => (chkText_at hc ho).1, fun j o t i ho ht hi => ?_, fun j o d ho hdst => ((chkText_at hc ho).2.1 d hdst).1, fun j o g w ho hg => ?_, fun i j hij hj hi hj' => ord j i hij hj hi hj', by rw [mem0]; exact hG, fun j o v ho hv μ => ?_, fun j o g ho hg => ?_, fun j o ho => ?_⟩, mem0, memn, htm.symm⟩
  · rw [hwr]
    exact ⟨wrOf_some, fun ⟨o, ho, hdst⟩ => ((chkText_at hc ho).2.1 t hdst).2⟩
  · rw [hwr] at hi
    obtain ⟨h1, h2⟩ := (chkText_at hc ho).2.2.1 t ht i hi
    exact ⟨fun h => bit _ _ (h1 h), fun h => bit _ _ (h2 h)⟩
  · obtain ⟨h1, h2⟩ := (chkText_at hc ho).2.2.2.1 g w hg
    cases hog : ops[g]? with
    | none => rw [hog] at h2; cases h2
    | some og =>
      rw [hog] at h2
      cases hdd : og.dst with
      | none => simp [hdd] at h2
      | some d => exact ⟨og, d, rfl, hdd, h1⟩
  · have := Array.all_eq_true_iff_forall_mem.1 ((allA_eq _ _).symm.trans (chkText_at hc ho).2.2.2.2) _ hv
    exact closedV_rel μ 3 v this
  · have := Array.all_eq_true_iff_forall_mem.1 ((allA_eq _ _).symm.trans (chkText_at hc ho).2.2.2.2) _ hg
    have h0 : cond (Nat.blt g 64) (Nat.blt g G) false = true := this
    exact (glob_ok h0).symm
  · have hjn : j < ops.size := (Array.getElem?_eq_some_iff.1 ho).1
    have hlt : j < rs.length := by omega
    obtain ⟨hdj, hmj⟩ := did_at j rs[j].1 rs[j].2 (by simp [hlt])
    have hdyn := chkDyn_at rs 0 j rs[j].1 rs[j].2 hd (by simp [hlt])
    rw [← hdj, Nat.zero_add] at hdyn
    rcases hops j o (Nat.zero_le _) ho with h | ⟨hw, hright⟩
    · exact .inl h
    · refine .inr ⟨hw, ?_⟩
      cases hrec : R.did j with
      | skip => rw [hrec] at hright; exact hright
      | val v => rw [hrec] at hright; exact hright
      | load b off cs v =>
        rw [hrec] at hright hdyn
        obtain ⟨h1, h2, h3, r, hr', hcs⟩ := hright
        have hjE : (R.did j).isE = false := by rw [hrec]; rfl
        refine ⟨h1, h2, h3, Mem.lt hr', fun J hM => ?_⟩
        simp only [Bool.or_eq_true] at hdyn
        rcases hdyn with hfix | hsame
        · unfold fixedAt at hfix
          simp only [Bool.and_eq_true] at hfix
          have hjJ : j < J := by
            rcases Nat.lt_or_ge j J with h | h
            · exact h
            · exfalso
              obtain ⟨hSt, hM1, hM2⟩ := hM
              rcases hSt with h' | ⟨hJ1, hJ2⟩
              · omega
              · have hJj : J ≠ j := fun e => by rw [e, hjE] at hJ2; cases hJ2
                have hf1 := hfix.1
                split at hf1
                · rename_i hn
                  have := lastE_none hn J (by omega)
                  rw [← isE, hJ2] at this
                  cases this
                · rename_i i hl
                  obtain ⟨g1, g2, g3⟩ := lastE_spec hl
                  have hJi : J ≤ i := by
                    rcases Nat.lt_or_ge i J with h' | h'
                    · have := g3 J h' (by omega)
                      rw [← isE, hJ2] at this
                      cases this
                    · exact h'
                  have := hM2 i (by omega) (by rw [isE]; exact g2) (bit _ _ hf1)
                  omega
          have hnat := natural j J hjn hjE hfix.2 hjJ hM
          have hJn : J ≤ ops.size := by rcases hM.1 with h | h <;> omega
          obtain ⟨g1, g2⟩ := calm (J - j) j (by omega) (fun k a c => hnat k a (by omega)) b (Mem.lt hr')
          rw [show j + (J - j) = J by omega] at g1 g2
          refine ⟨r, ?_, hcs⟩
          unfold Run.at_
          rw [if_pos g2, g1, hr']
        · rw [hmj] at hr'
          rw [hr'] at hsame
          obtain ⟨e', he', hmJ⟩ := stage_mem J hM.1
          have hk := List.all_eq_true.1 hsame _ he'
          simp only [meets j J hM, Bool.not_true, Bool.false_or] at hk
          have hg := sameRow_get hk
          rw [← hmJ] at hg
          refine ⟨r, ?_, hcs⟩
          unfold Run.at_
          rw [if_pos (Mem.lt hg), hg]
      | make x fm =>
        rw [hrec] at hright hdyn
        obtain ⟨h1, h2⟩ := hright
        have hjE : (R.did j).isE = false := by rw [hrec]; rfl
        refine ⟨h1, h2, fun J hjJ hM => ?_⟩
        simp only [Bool.or_eq_true] at hdyn
        have hJn : J ≤ ops.size := by rcases hM.1 with h | h <;> omega
        rcases hdyn with hfix | hsame
        · have hnat := natural j J hjn hjE hfix hjJ hM
          have hget : (R.mem (j + 1)).get (R.mem j).next = some x := by rw [h2, Mem.push_get, if_pos rfl]
          obtain ⟨g1, _⟩ := calm (J - (j + 1)) (j + 1) (by omega) (fun k a c => hnat k (by omega) (by omega)) (R.mem j).next (by rw [h2]; simp [Mem.push])
          rw [show j + 1 + (J - (j + 1)) = J by omega] at g1
          rw [g1, hget]
        · split at hsame
          · obtain ⟨e', he', hmJ⟩ := stage_mem J hM.1
            have hk := List.all_eq_true.1 hsame _ he'
            have hb : Nat.blt j J = true := by rw [Nat.blt_eq]; exact hjJ
            simp only [meets j J hM, hb, Bool.and_self, Bool.not_true, Bool.false_or] at hk
            have hg := sameRow_get hk
            rw [hmJ, hmj]
            exact hg
          · cases hsame
      | eff v => rw [hrec] at hright; exact hright
end Go.Proofs.YtjcmdifpkafdkaaDoor
namespace Go.Proofs.YtjcmdifpkafdkaaDoor
variable {P : Program} {G : Nat} {nt : Nat}

def panC (v : Value) : List PanicEntry := [{ v := v, recovered := false }]
def SCallP (G : Nat) (P : Program) (f : FuncId) (args : Array Value) (σ : Mem) (v : Value) (σ' : Mem) : Prop :=
 σ.next ≤ σ'.next ∧ ∀ μ w cargs, Sim G μ σ w → G ≤ σ.next → Fresh μ σ σ' → ARel μ args cargs → Calls P f cargs w fun e w' => ∃ μ', e = .panicked (panC v) ∧ Stp G σ μ w σ' μ' w'
def EOpP (G : Nat) (P : Program) (o : Oper) (ρ : Operand → Value) (σ : Mem) (v : Value) (σ' : Mem) : Prop :=
 σ.next ≤ σ'.next ∧ ∀ μ w (a : Act), Sim G μ σ w → G ≤ σ.next → Fresh μ σ σ' → ORel μ ρ a.eval o.op.operands → ∀ (K : Act → World → Prop) (Q : Exit → Act → World → Prop),
  (∀ w' μ', Stp G σ μ w σ' μ' w' → Q (.panic (panC v)) a w') → ∀ rd, o.wpIn (FW rd) 0 P a w K Q
theorem wp_of_enterP {o : Oper} {a : Act} {w w' : World} {K : Act → World → Prop} {Q : Exit → Act → World → Prop} {rd : Option Nat} {f : FuncId} {args : Array Value} {ch : List PanicEntry} (h : (execOp a.eval o).run P w = .ok (.enter f args) w')
    (k : Calls P f args w' fun e w'' => e = .panicked ch ∧ Q (.panic ch) a w'') : o.wpIn (FW rd) 0 P a w K Q := by
  refine ⟨fun _ _ => trivial, ?_⟩
  rw [Oper.semAt_eq _ _ _ (not_defer h (by simp)), h]
  refine ⟨fun h => (by simp [Fence.wide] at h), ?_⟩
  refine (callsIn_wide.2 (k.mono ?_) : CallsIn Fence.wide 0 P f args w' _)
  rintro e w'' ⟨rfl, hk⟩
  exact hk
theorem eop_callP {o : Oper} {ρ : Operand → Value} {c : Call} {x : Operand} {f : FuncId} {fa ca : Array Value} {σ σ' : Mem} {v : Value} (ho : o.op = .call c) (hc : c.callee = .value x) (hx : ρ x = .func (.func f) fa ca) (hp : plainFn P f = true)
    (h : SCallP G P f (fa ++ c.args.map ρ ++ ca) σ v σ') : EOpP G P o ρ σ v σ' := by
  refine ⟨h.1, fun μ w a hs hG hf hor K Q k rd => ?_⟩
  rw [ho] at hor
  have hops : ∀ y, y = x ∨ y ∈ c.args → y ∈ (Op.call c).operands := fun y hy => by
    simp only [Op.operands, Call.operands, hc]
    rcases hy with rfl | hy <;> simp [*]
  have h1 := hor x (hops x (.inl rfl))
  rw [hx] at h1
  obtain ⟨fa', ca', e, ha, hca⟩ := h1.func_inv
  have hargs := ARel.map fun y hy => hor y (hops y (.inr hy))
  refine wp_of_enterP (f := f) (args := fa' ++ c.args.map a.eval ++ ca') (w' := w) (ch := panC v) ?_ ?_
  · unfold execOp
    simp only [ho, Sem.run_bind, resolve_value hc e, Result.andThen_ok, invoke_func hp]
  · refine (h.2 μ w _ hs hG hf ((ha.append hargs).append hca)).mono ?_
    rintro e w' ⟨μ', rfl, hst⟩
    exact ⟨rfl, k w' μ' hst⟩
theorem eop_panic {o : Oper} {ρ : Operand → Value} {x : Operand} {t : TypeId} {u : Value} {σ : Mem} (ho : o.op = .panic x) (hx : ρ x = .iface t u) (hc : closedV 3 (.iface t u) = true) : EOpP G P o ρ σ (.iface t u) σ := by
 refine ⟨Nat.le_refl _, fun μ w a hs hG hf hor K Q k rd => ⟨fun _ _ => trivial, ?_⟩⟩
 rw [ho] at hor
 have h1 := hor x (by simp [Op.operands])
 rw [hx] at h1
 have e := closedV_eq 3 _ _ hc h1
 rw [Oper.semAt_eq _ _ _ (fun c h => by rw [ho] at h; cases h)]
 have hr : (execOp a.eval o).run P w = .halt (.panic (.iface t u)) w := by
  unfold execOp
  rw [ho]
  simp only [e]
  rfl
 rw [hr]
 exact k w μ (Stp.refl hs hG)
noncomputable def panOp (pan : FuncId → Array Value → EM → Option (Value × EM)) (P : Program) (e : EM) (o : Oper) (ρ : Operand → Value) : Option (Value × EM) :=
 match o.op with
 | .panic x => (match ρ x with
  | .iface t u => cond (closedV 3 (.iface t u)) (some (.iface t u, e)) none
  | _ => none)
 | .call c => (match c.callee with
  | .value x => (match ρ x with
   | .func (.func f) fa ca => cond (plainFn P f) (pan f (fa ++ c.args.map ρ ++ ca) e) none
   | _ => none)
  | _ => none)
 | _ => none
def PanRight (pan : FuncId → Array Value → EM → Option (Value × EM)) (G : Nat) (P : Program) : Prop := ∀ f args e v e', pan f args e = some (v, e') → SCallP G P f args e.mem v e'.mem
theorem panOp_right {pan : FuncId → Array Value → EM → Option (Value × EM)} (hp : PanRight pan G P) {e e' : EM} {o : Oper} {ρ : Operand → Value} {v : Value} (h : panOp pan P e o ρ = some (v, e')) : EOpP G P o ρ e.mem v e'.mem := by
  unfold panOp at h
  split at h
  · rename_i x ho
    split at h
    · rename_i t u hx
      cases hc : closedV 3 (.iface t u) with
      | false => rw [hc] at h; cases h
      | true => rw [hc] at h; cases h; exact eop_panic ho hx hc
    · cases h
  · rename_i c ho
    split at h
    · rename_i x hx
      split at h
      · rename_i f fa ca hf
        cases hc : plainFn P f with
        | false => rw [hc] at h; cases h
        | true => rw [hc] at h; exact eop_callP ho hx hf hc (hp _ _ _ _ _ h)
      · cases h
    · cases h
  · cases h
noncomputable def panRun (D : Doer) (pan : FuncId → Array Value → EM → Option (Value × EM)) (G : Nat) (P : Program) (nt : Nat) (ops : Array Oper) : List Oper → T Value → EM → Option (Value × T Value × EM)
  | [], _, _ => none
  | o :: l, tr, e => cond (wantedT ops (tmG tr) o)
      (cond (opndOk G o) (match opRun D G P e o (oper2 (tmG tr)) with
        | some (r, e1) => (match putDst nt tr (r.value e.mem) o.dst with
          | some tr1 => panRun D pan G P nt ops l tr1 e1
          | none => none)
        | none => (match panOp pan P e o (oper2 (tmG tr)) with
          | some (v, e1) => some (v, tr, e1)
          | none => none)) none)
      (match putDst nt tr undef o.dst with
        | some tr1 => panRun D pan G P nt ops l tr1 e
        | none => none)
theorem panRun_text {D : Doer} {pan : FuncId → Array Value → EM → Option (Value × EM)} (hD : D.Right G P) (hp0 : PanRight pan G P) {ops : Array Oper} {rc : Option Nat} : ∀ (l : List Oper) (j : Nat) (tr : T Value) (e : EM) (v : Value) (tr2 : T Value) (e2 : EM), ops.toList.drop j = l → panRun D pan G P nt ops l tr e = some (v, tr2, e2) →
    e.mem.next ≤ e2.mem.next ∧ ∀ μ w (a : Act), Sim G μ e.mem w → G ≤ e.mem.next → Fresh μ e.mem e2.mem → TRel μ nt (tmG tr) a.tmps → ∀ Q : Exit → Act → World → Prop, (∀ (a' : Act) w' μ', a'.defers = a.defers → Stp G e.mem μ w e2.mem μ' w' → TRel μ' nt (tmG tr2) a'.tmps → Q (.panic (panC v)) a' w') → wpOpsIn (FW rc) 0 P ops Q (List.range' j l.length) a w := by
  intro l
  induction l with
  | nil =>
    intro j tr e v tr2 e2 hj h
    simp only [panRun] at h
    cases h
  | cons o l ih =>
    intro j tr e v tr2 e2 hj h
    have hjo : ops[j]? = some o := by
      have := congrArg List.head? hj
      rw [List.head?_drop] at this
      simpa using this
    have hj' : ops.toList.drop (j + 1) = l := by
      have := congrArg List.tail hj
      simpa using this
    simp only [panRun] at h
    cases hw : wantedT ops (tmG tr) o with
    | false =>
      rw [hw] at h
      simp only [cond_false] at h
      split at h
      · rename_i tr1 hp
        obtain ⟨h1, h2⟩ := ih (j + 1) tr1 e v tr2 e2 hj' h
        refine ⟨h1, fun μ w a hs hG hf ht Q hQ => ?_⟩
        rw [List.length_cons, List.range'_succ]
        simp only [wpOpsIn, hjo, wanted_of ht, hw, Bool.false_eq_true, if_false]
        refine ⟨fun _ _ => trivial, h2 μ w _ hs hG hf (putDst_rel hp ht (VRel.undef μ)) Q fun a' w' μ' hd hst htr => hQ a' w' μ' (hd.trans ?_) hst htr⟩
        cases o.dst <;> rfl
      · cases h
    | true =>
      rw [hw] at h
      simp only [cond_true] at h
      cases hk : opndOk G o with
      | false => rw [hk] at h; cases h
      | true =>
        rw [hk] at h
        simp only [cond_true] at h
        split at h
        · rename_i r e1 hop
          split at h
          · rename_i tr1 hp
            obtain ⟨h1, h2⟩ := ih (j + 1) tr1 e1 v tr2 e2 hj' h
            have hright := opRun_right hD (fun _ => rfl) hop
            have heop := hright.eop
            refine ⟨Nat.le_trans heop.1 h1, fun μ w a hs hG hf ht Q hQ => ?_⟩
            rw [List.length_cons, List.range'_succ]
            simp only [wpOpsIn, hjo, wanted_of ht, hw, if_true]
            refine heop.2 μ w a hs hG (fun b g1 g2 => hf b g1 (Nat.lt_of_lt_of_le g2 h1)) (orel_of hs ht hk) _ _ (fun vc w1 μ1 s1 hv => ?_) rc
            refine h2 μ1 w1 _ s1.sim (Nat.le_trans hG s1.next) (fun b g1 g2 => ?_) (putDst_rel hp (ht.ext s1.extE) hv) Q fun a' w' μ' hd hst htr => hQ a' w' μ' (hd.trans ?_) (s1.trans hst) htr
            · rw [s1.ext b (.inr g1)]; exact hf b (Nat.le_trans s1.next g1) g2
            · cases o.dst <;> rfl
          · cases h
        · split at h
          · rename_i v' e1 hop
            cases h
            have heop := panOp_right hp0 hop
            refine ⟨heop.1, fun μ w a hs hG hf ht Q hQ => ?_⟩
            rw [List.length_cons, List.range'_succ]
            simp only [wpOpsIn, hjo, wanted_of ht, hw, if_true]
            exact heop.2 μ w a hs hG hf (orel_of hs ht hk) _ _ (fun w1 μ1 s1 => hQ a w1 μ1 rfl s1 (ht.ext s1.extE)) rc
          · cases h
theorem panRun_code {D : Doer} {pan : FuncId → Array Value → EM → Option (Value × EM)} (hD : D.Right G P) (hp : PanRight pan G P) {rd : Option Nat} {id : Nat} {ops : Array Oper} {tr tr2 : T Value} {e e2 : EM} {v : Value} {dm : List DItem} (h : panRun D pan G P nt ops ops.toList tr e = some (v, tr2, e2)) :
    SCode G P rd nt (.region id ops false) (tmG tr) dm e.mem (.panic (panC v)) (tmG tr2) dm e2.mem := by
  refine ⟨(panRun_text (nt := nt) (rc := none) hD hp (ops := ops) ops.toList 0 tr e v tr2 e2 rfl h).1, fun μ w a rc hs hG hf ht hd _ Q hQ => wpIn_region ?_⟩
  have h3 := (panRun_text (nt := nt) (rc := rc) hD hp (ops := ops) ops.toList 0 tr e v tr2 e2 rfl h).2 μ w a hs hG hf ht Q fun a' w' μ' he hst htr => hQ a' w' μ' (by rw [he]; exact hd.ext hst.extE) hst htr
  rw [List.range_eq_range']
  simpa using h3
def SDCallP (G : Nat) (P : Program) (f : FuncId) (args : Array Value) (v : Value) (σ σ' : Mem) : Prop :=
 σ.next ≤ σ'.next ∧ ∀ μ w cargs, Sim G μ σ w → G ≤ σ.next → Fresh μ σ σ' → ARel μ args cargs → CallsDIn (FW none) 0 P f cargs (.panicking (panC v)) w fun e u' w' => ∃ r μ', e = .returned r ∧ u' = .panicking [{ v := v, recovered := true }] ∧ Stp G σ μ w σ' μ' w'
inductive ShutP (G : Nat) (P : Program) (v : Value) : List DItem → Mem → Mem → Prop
 | mark {b : Nat} {bs : List DItem} {σ σ2 : Mem} (hx : σ.get b = some (.defs true)) (hb : G ≤ b) (h : ShutP G P v bs (σ.put b (.defs false)) σ2) : ShutP G P v (.mark b :: bs) σ σ2
 | call {f : FuncId} {args caps : Array Value} {bs : List DItem} {σ σ1 σ2 : Mem} (hp : ∀ as cs w, (invoke (.fn (.func f) cs) as).run P w = .ok (.enter f (as ++ cs)) w) (hc : SDCallP G P f (args ++ caps) v σ σ1) (h : Shut G P bs σ1 σ2) : ShutP G P v (.call f args caps :: bs) σ σ2
theorem ShutP.next {v : Value} {bs : List DItem} {σ σ2 : Mem} (h : ShutP G P v bs σ σ2) : σ.next ≤ σ2.next := by
 induction h with
 | mark _ _ _ ih => exact ih
 | call _ hc h => exact Nat.le_trans hc.1 h.next
theorem leavesP {fn : Func} {v0 : Value} {σ σ2 : Mem} {v : Value} {tmps : Array Value} {ta : Nat → Value} {dm : List DItem} (hr : SRes G P nt fn ta σ2 v) (h : ShutP G P v0 dm σ σ2) {R : Ending → World → Prop} : ∀ (ds : List Deferred) (μ : Mu) (w : World), DRel μ dm ds → Sim G μ σ w → G ≤ σ.next → Fresh μ σ σ2 → TRel μ nt ta tmps →
    (∀ vc w' μ', Stp G σ μ w σ2 μ' w' → VRel μ' v vc → R (.returned vc) w') → LeavesInM (FW none) 0 P fn tmps R ds (.panicking (panC v0)) w := by
  induction h with
  | @mark b bs σ σ2 hx hb h ih =>
    intro ds μ w hd hs hG hf ht hR
    cases ds with
    | nil => exact hd.elim
    | cons d ds =>
      obtain ⟨⟨bi, hb', hd'⟩, hds⟩ := hd
      have hin : w.heap[bi.blk]? = some (.deferred (some [])) := hs.blk b _ bi hx hb'
      have st := Stp.setObj (o := .deferred none) (y := .defs false) hs hG hb hx hb' (fun w' hw => hw)
      refine ⟨by simp, .inl ⟨bi.blk, _, by rw [hd'], ?_, ih hr ds μ _ hds st.sim hG hf ht fun vc w' μ' st2 hv => hR vc w' μ' (st.trans st2) hv⟩⟩
      unfold Instr.takeDeferred
      simp only [Sem.run_bind, getObj_run hin (by simp), Result.andThen_ok, setObj_run hin (by simp)]
      rfl
  | @call f args caps bs σ σ1 σ2 hp hc h =>
    intro ds μ w hd hs hG hf ht hR
    cases ds with
    | nil => exact hd.elim
    | cons d ds =>
      obtain ⟨⟨as', cs', hd', ha, hca⟩, hds⟩ := hd
      refine ⟨by simp, .inr ⟨fun h => by simp [Fence.wide] at h, .func f, cs', f, as' ++ cs', by rw [hd'], by rw [hd']; exact hp _ _ _, fun _ _ => trivial, ?_⟩⟩
      refine (hc.2 μ w (as' ++ cs') hs hG (hf.left h.next) (ha.appendE hca)).mono ?_
      rintro e u' w1 ⟨v1, μ1, rfl, rfl, st⟩
      exact leaves hr h ds μ1 w1 (hds.ext st.extE) st.sim (Nat.le_trans hG st.next) (hf.right st) (ht.ext st.extE) fun vc w' μ' st2 hv => hR vc w' μ' (st.trans st2) hv
theorem args_rel {μ : Mu} {args cargs : Array Value} {n : Nat} (ha : ARel μ args cargs) : TRel μ (args.size + (n - args.size)) (fun t => args.getD t undef) (cargs ++ Array.replicate (n - cargs.size) undef) := by
 refine ⟨by simp [ha.1], fun t => ?_⟩
 simp only [Array.getD_eq_getD_getElem?, Array.getElem?_append, Array.getElem?_replicate]
 rcases Nat.lt_or_ge t args.size with h1 | h1
 ·have h2 : t < cargs.size := by rw [← ha.1]; exact h1
  simp only [h1, h2, if_true, getElem?_pos, Option.getD_some]
  exact ha.2 t _ _ (by simp [h1]) (by simp [h2])
 ·have h2 : ¬ t < cargs.size := by rw [← ha.1]; omega
  simp only [h2, if_false]
  rw [Array.getElem?_eq_none (by omega)]
  split <;> exact VRel.undef μ
theorem SCall.of_recovered {f : FuncId} {fn : Func} {c : Code} {args : Array Value} {σ σ' σ2 : Mem} {v0 : Value} {ta' : Nat → Value} {dm : List DItem} {v : Value} (hf : P.funcs[f]? = some fn) (hb : fn.body = some c)
    (h : SCode G P none (args.size + (fn.ntmps - args.size)) c (fun t => args.getD t undef) [] σ (.panic (panC v0)) ta' dm σ') (hs : ShutP G P v0 dm σ' σ2)
    (hr : SRes G P (args.size + (fn.ntmps - args.size)) fn ta' σ2 v) : SCall G P f args σ v σ2 := by
  refine ⟨Nat.le_trans h.1 hs.next, fun μ w cargs hsim hG hfr ha => ?_⟩
  refine (callsIn_wide (n := 0)).1 (callsIn_of_wp_marks (F := FW none) hf hb trivial (h.2 μ w { tmps := cargs ++ Array.replicate (fn.ntmps - cargs.size) undef, defers := [] } none hsim hG (hfr.left hs.next) (args_rel ha) trivial trivial _ fun a' w' μ' hd' hst htr => ?_))
  exact leavesP hr hs a'.defers μ' w' hd' hst.sim (Nat.le_trans hG hst.next) (hfr.right hst) htr fun vc w2 μ2 st hv => ⟨vc, μ2, rfl, hst.trans st, hv⟩
theorem SCallP.of_code {f : FuncId} {fn : Func} {c : Code} {args : Array Value} {σ σ' : Mem} {v0 : Value} {ta' : Nat → Value} (hf : P.funcs[f]? = some fn) (hb : fn.body = some c)
    (h : SCode G P none (args.size + (fn.ntmps - args.size)) c (fun t => args.getD t undef) [] σ (.panic (panC v0)) ta' [] σ') : SCallP G P f args σ v0 σ' := by
  refine ⟨h.1, fun μ w cargs hsim hG hfr ha => ?_⟩
  refine (callsIn_wide (n := 0)).1 (callsIn_of_wp_marks (F := FW none) hf hb trivial (h.2 μ w { tmps := cargs ++ Array.replicate (fn.ntmps - cargs.size) undef, defers := [] } none hsim hG hfr (args_rel ha) trivial trivial _ fun a' w' μ' hd' hst htr => ?_))
  cases hdd : a'.defers with
  | nil =>
    have hl : LeavesInM (FW none) 0 P fn a'.tmps (fun e w' => ∃ μ', e = .panicked (panC v0) ∧ Stp G σ μ w σ' μ' w') [] (.panicking (panC v0)) w' := ⟨μ', rfl, hst⟩
    rw [← hdd] at hl
    exact hl
  | cons d ds => rw [hdd] at hd'; exact hd'.elim
def SDCode (G : Nat) (P : Program) (nt : Nat) (c : Code) (ta : Nat → Value) (σ : Mem) (ex : Exit) (ta' : Nat → Value) (σ' : Mem) : Prop :=
 σ.next ≤ σ'.next ∧ ∀ μ w (a : Act) cs, Sim G μ σ w → G ≤ σ.next → Fresh μ σ σ' → TRel μ nt ta a.tmps → a.defers = [] → recoverD cs = none → ∀ Q : Exit → Act → List Frame → World → Prop, (∀ (a' : Act) w' μ', a'.defers = [] → Stp G σ μ w σ' μ' w' → TRel μ' nt ta' a'.tmps → Q ex a' cs w') → c.wpSIn (FW none) 0 P Q a cs w
def SDCodeP (G : Nat) (P : Program) (nt : Nat) (c : Code) (ta : Nat → Value) (v : Value) (σ : Mem) (ex : Exit) (ta' : Nat → Value) (σ' : Mem) : Prop :=
 σ.next ≤ σ'.next ∧ ∀ μ w (a : Act) cs cs1, Sim G μ σ w → G ≤ σ.next → Fresh μ σ σ' → TRel μ nt ta a.tmps → a.defers = [] → recoverD cs = some (v, cs1) → recoverD cs1 = none → ∀ Q : Exit → Act → List Frame → World → Prop, (∀ (a' : Act) w' μ', a'.defers = [] → Stp G σ μ w σ' μ' w' → TRel μ' nt ta' a'.tmps → Q ex a' cs1 w') → c.wpSIn (FW none) 0 P Q a cs w
theorem SDCodeP.seq {x y : Code} {ta ta1 ta2 : Nat → Value} {v : Value} {σ σ1 σ2 : Mem} {ex : Exit} (h : SDCodeP G P nt x ta v σ .normal ta1 σ1) (k : SDCode G P nt y ta1 σ1 ex ta2 σ2) : SDCodeP G P nt (.seq x y) ta v σ ex ta2 σ2 :=
 ⟨Nat.le_trans h.1 k.1, fun μ w a cs cs1 hs hG hf ht hd hr hr1 Q hQ => wpSIn_seq (h.2 μ w a cs cs1 hs hG (hf.left k.1) ht hd hr hr1 _ fun a1 w1 μ1 hd1 hst htr =>
  k.2 μ1 w1 a1 cs1 hst.sim (Nat.le_trans hG hst.next) (hf.right hst) htr hd1 hr1 Q fun a2 w2 μ2 hd2 hst2 htr2 => hQ a2 w2 μ2 hd2 (hst.trans hst2) htr2)⟩
theorem SDCodeP.later {x y : Code} {ta ta1 ta2 : Nat → Value} {v : Value} {σ σ1 σ2 : Mem} {ex : Exit} (h : SCode G P none nt x ta [] σ .normal ta1 [] σ1) (k : SDCodeP G P nt y ta1 v σ1 ex ta2 σ2) : SDCodeP G P nt (.seq x y) ta v σ ex ta2 σ2 :=
 ⟨Nat.le_trans h.1 k.1, fun μ w a cs cs1 hs hG hf ht hd hr hr1 Q hQ => wpSIn_seq (wpSIn_of_wpIn rfl (h.2 μ w a none hs hG (hf.left k.1) ht (by rw [hd]; trivial) trivial _ fun a1 w1 μ1 hd1 hst htr =>
  k.2 μ1 w1 a1 cs cs1 hst.sim (Nat.le_trans hG hst.next) (hf.right hst) htr (by
   cases hdd : a1.defers with
   | nil => rfl
   | cons d ds => rw [hdd] at hd1; exact hd1.elim) hr hr1 Q fun a2 w2 μ2 hd2 hst2 htr2 => hQ a2 w2 μ2 hd2 (hst.trans hst2) htr2))⟩
theorem SDCodeP.seq_out {x y : Code} {ta ta1 : Nat → Value} {v : Value} {σ σ1 : Mem} {ex : Exit} (h : SDCodeP G P nt x ta v σ ex ta1 σ1) (hx : ex ≠ .normal) : SDCodeP G P nt (.seq x y) ta v σ ex ta1 σ1 :=
 ⟨h.1, fun μ w a cs cs1 hs hG hf ht hd hr hr1 Q hQ => wpSIn_seq (h.2 μ w a cs cs1 hs hG hf ht hd hr hr1 _ fun a1 w1 μ1 hd hst htr => by
  have := hQ a1 w1 μ1 hd hst htr
  cases ex <;> first | exact absurd rfl hx | exact this)⟩
theorem SDCodeP.cond {x y : Code} {c : Operand} {ta ta1 : Nat → Value} {v : Value} {σ σ1 : Mem} {ex : Exit} {b : Bool} (hc : oper2 ta c = .bool b) (h : SDCodeP G P nt (if b then x else y) ta v σ ex ta1 σ1) : SDCodeP G P nt (.cond c x y) ta v σ ex ta1 σ1 :=
 ⟨h.1, fun μ w a cs cs1 hs hG hf ht hd hr hr1 Q hQ => wpSIn_cond (t := b) (by
  cases c with
  | tmp t => exact ((ht.2 t).bool_iff b).2 hc
  | const v => exact hc
  | global g => cases hc
  | func f => cases hc) (h.2 μ w a cs cs1 hs hG hf ht hd hr hr1 Q hQ)⟩
theorem wpSIn_recFirstP {F : Fence} {n id : Nat} {ops : Array Oper} {Q : Exit → Act → List Frame → World → Prop} {a : Act} {cs cs1 : List Frame} {w : World} {o : Oper} {v : Value} (hfr : F.round = none) (ho : ops[0]? = some o) (hgd : o.guard = none) (hrun : (execOp a.eval o).run P w = .ok .recover w) (hab : ∀ f, o.about P w a.eval = some f → F.fn f) (hrec : recoverD cs = some (v, cs1))
    (h : wpOpsIn F n P ops (fun e a' w' => Q e a' cs1 w') (List.range' 1 (ops.size - 1)) (a.put o.dst v) w) : (Code.region id ops false).wpSIn F n P Q a cs w := by
  intro b k hb hro hF hroom
  have hlen := recoverD_length hrec
  obtain ⟨e, a', w', hq, harr⟩ := wp_opsIn _ _ w h b k cs1 (hro.trans hfr.symm) hF (hlen ▸ hroom)
  have hsz : 0 < ops.size := (Array.getElem?_eq_some_iff.1 ho).1
  have hrange : List.range ops.size = 0 :: List.range' 1 (ops.size - 1) := by
    rw [List.range_eq_range']
    obtain ⟨m, hm⟩ : ∃ m, ops.size = m + 1 := ⟨ops.size - 1, by omega⟩
    rw [hm, List.range'_succ]
    simp
  have hw : Region.wanted o (yielded ops a.tmps) = true := by unfold Region.wanted; rw [hgd]
  have h0 : (lone (b.atR a (.inRegion ops (0 :: List.range' 1 (ops.size - 1)) :: k)) cs w).fenced P F := fenced_oper hF hroom ho hab
  have hg := stepGR_op (P := P) (b := b) (k := k) (cs := cs) (w := w) (rest := List.range' 1 (ops.size - 1)) ho hw
  rw [hro, Oper.semAt_none] at hg
  have hfin : ∀ v, (b.atR a (.inRegion ops (0 :: List.range' 1 (ops.size - 1)) :: k)).finish v = b.atR (a.put o.dst v) (.inRegion ops (List.range' 1 (ops.size - 1)) :: k) := by
    intro v; rw [Frame.finish_atR, ho]; rfl
  have hk : (b.atR a (.inRegion ops (0 :: List.range' 1 (ops.size - 1)) :: k)).kind = .deferred := hb
  have htr := tryRecover_deferred hk cs
  refine ⟨e, a', cs1, w', hlen, hq, .of_steps (.one (fenced_calm hF hroom rfl) stepR_region) ?_⟩
  rw [hrange]
  refine .of_steps (.one h0 (step_lone_go ?_)) harr
  rw [hg, ← hfin]
  simp only [Frame.atR, hro] at htr ⊢
  simp [stepG.apply, hrun, htr, hrec]
def isRec (o : Oper) : Bool := match o.op with
 | .call c => (match c.callee with | .builtin .recover => true | _ => false)
 | _ => false
theorem isRec_run {o : Oper} (hrec : isRec o = true) (a : Act) (w : World) : (execOp a.eval o).run P w = .ok .recover w := by
 unfold isRec at hrec
 split at hrec
 ·rename_i c ho
  split at hrec
  ·rename_i hc
   unfold execOp
   simp only [ho, Sem.run_bind, resolve, hc, Result.andThen_ok, Sem.run_pure]
   rfl
  ·cases hrec
 ·cases hrec
noncomputable def recRunP (D : Doer) (G : Nat) (P : Program) (nt : Nat) (ops : Array Oper) (v : Value) (e : EM) (tr : T Value) : Option (T Value × EM) :=
 match ops.toList with
 | o :: l => (match o.guard with
  | none => cond (isRec o) (match putDst nt tr v o.dst with
   | some tr1 => (match regRun D G P nt ops l tr1 e with
    | some (_, tr2, e2) => some (tr2, e2)
    | none => none)
   | none => none) none
  | some _ => none)
 | [] => none
theorem recRunP_right {D : Doer} (hD : D.Right G P) {id : Nat} {ops : Array Oper} {e e2 : EM} {tr tr2 : T Value} {v : Value} (hv : closedV 3 v = true) (h : recRunP D G P nt ops v e tr = some (tr2, e2)) : SDCodeP G P nt (.region id ops false) (tmG tr) v e.mem .normal (tmG tr2) e2.mem := by
 unfold recRunP at h
 split at h
 ·rename_i o l hops
  split at h
  ·rename_i hg
   cases hrec : isRec o with
   | false => rw [hrec] at h; cases h
   | true =>
    rw [hrec] at h
    simp only [cond_true] at h
    split at h
    ·rename_i tr1 hp
     split at h
     ·rename_i rs tr2' e2' hrun
      cases h
      have hdrop : ops.toList.drop 1 = l := by rw [hops]; rfl
      have ho : ops[0]? = some o := by rw [← Array.getElem?_toList, hops]; rfl
      have hl : ops.size - 1 = l.length := by rw [← Array.length_toList, hops]; simp
      refine ⟨(regRun_text (nt := nt) (rc := none) hD (ops := ops) l 1 tr1 e rs tr2 e2 hdrop hrun).1, fun μ w a cs cs1 hs hG hf ht hd hr _ Q hQ => ?_⟩
      refine wpSIn_recFirstP rfl ho hg (isRec_run hrec a w) (fun _ _ => trivial) hr ?_
      rw [hl]
      refine (regRun_text (nt := nt) (rc := none) hD (ops := ops) l 1 tr1 e rs tr2 e2 hdrop hrun).2 μ w _ hs hG hf (putDst_rel hp ht (closedV_rel μ 3 v hv)) _ fun a' w' μ' he hst htr => hQ a' w' μ' ?_ hst htr
      rw [he]
      cases o.dst <;> exact hd
     ·cases h
    ·cases h
  ·cases h
 ·cases h
end Go.Proofs.YtjcmdifpkafdkaaDoor
namespace Go.Proofs.YtjcmdifpkafdkaaDoor
variable {P : Program} {G : Nat}

def Sub (τ σ : Mem) : Prop := τ.next = σ.next ∧ (∀ b x, τ.get b = some x → σ.get b = some x) ∧ τ.abs = σ.abs
def Mem.over (σ τ τ' : Mem) : Mem := ⟨fun b => if b < σ.next then (match τ.get b with | some _ => τ'.get b | none => σ.get b) else τ'.get b, τ'.next, τ'.abs⟩
theorem Mem.get_ge {σ : Mem} {b : Nat} (h : σ.next ≤ b) : σ.get b = none := by unfold Mem.get; rw [if_neg (by omega)]
theorem over_low {σ τ τ' : Mem} (hn : σ.next ≤ τ'.next) {b : Nat} (hb : b < σ.next) : (σ.over τ τ').get b = match τ.get b with | some _ => τ'.get b | none => σ.get b := by
 have h1 : b < (σ.over τ τ').next := Nat.lt_of_lt_of_le hb hn
 unfold Mem.get
 rw [if_pos h1]
 show (if b < σ.next then _ else _) = _
 rw [if_pos hb]
 rfl
theorem over_high {σ τ τ' : Mem} {b : Nat} (hb : σ.next ≤ b) : (σ.over τ τ').get b = τ'.get b := by
 rcases Nat.lt_or_ge b τ'.next with h | h
 ·have h1 : b < (σ.over τ τ').next := h
  show (if b < (σ.over τ τ').next then (if b < σ.next then _ else τ'.get b) else none) = _
  rw [if_pos h1, if_neg (by omega)]
 ·rw [Mem.get_ge (σ := σ.over τ τ') h, Mem.get_ge h]
theorem OwnOk.sub {μ : Mu} {σ τ : Mem} {w : World} (h : OwnOk σ μ w) (hs : Sub τ σ) : OwnOk τ μ w := ⟨by rw [hs.2.2]; exact h.1, fun b x bi hx => h.2 b x bi (hs.2.1 b x hx)⟩
theorem Sim.sub {μ : Mu} {σ τ : Mem} {w : World} (h : Sim G μ σ w) (hs : Sub τ σ) : Sim G μ τ w :=
 ⟨h.glob, fun b x bi hx => h.blk b x bi (hs.2.1 b x hx), fun b b' x x' bi bi' hx hx' => h.inj b b' x x' bi bi' (hs.2.1 b x hx) (hs.2.1 b' x' hx'), fun b x bi hG hx => h.rw_ b x bi hG (hs.2.1 b x hx), h.abs.sub hs⟩
theorem Stp.frame {μ μ' : Mu} {σ τ τ' : Mem} {w w' : World} (hs : Sim G μ σ w) (hsub : Sub τ σ) (h : Stp G τ μ w τ' μ' w') : Stp G σ μ w (σ.over τ τ') μ' w' := by
 have hn : σ.next ≤ τ'.next := hsub.1 ▸ h.next
 have hlow : ∀ b, b < σ.next → μ' b = μ b := fun b hb => h.ext b (.inl (by rw [hsub.1]; exact hb))
 -- of either kind
 have kind : ∀ b x, (σ.over τ τ').get b = some x → (τ'.get b = some x ∧ (b < σ.next → ∃ y, τ.get b = some y)) ∨ (b < σ.next ∧ τ.get b = none ∧ σ.get b = some x) := fun b x hx => by
  rcases Nat.lt_or_ge b σ.next with hb | hb
  ·rw [over_low hn hb] at hx
   split at hx
   ·rename_i y hy; exact .inl ⟨hx, fun _ => ⟨y, hy⟩⟩
   ·rename_i hy; exact .inr ⟨hb, hy, hx⟩
  ·rw [over_high hb] at hx
   exact .inl ⟨hx, fun h => absurd h (by omega)⟩
 have apart : ∀ b x bi b' x' bi', τ'.get b = some x → (b < σ.next → ∃ y, τ.get b = some y) → μ' b = some bi → b' < σ.next → τ.get b' = none → σ.get b' = some x' → μ' b' = some bi' → (G ≤ b ∨ G ≤ b') → bi.blk ≠ bi'.blk := fun b x bi b' x' bi' hx hy hm hb' hn' hx' hm' hor e => by
  rw [hlow b' hb'] at hm'
  have key : ∀ b0 x0 bi0, τ.get b0 = some x0 → μ b0 = some bi0 → bi0.blk = bi'.blk → (G ≤ b0 ∨ G ≤ b') → False := fun b0 x0 bi0 h1 h2 h3 h4 => by
   have := hs.inj b0 b' x0 x' bi0 bi' (hsub.2.1 _ _ h1) hx' h2 hm' h3 h4
   rw [this, hn'] at h1
   cases h1
  rcases Nat.lt_or_ge b σ.next with hb | hb
  ·obtain ⟨y, hy⟩ := hy hb
   rw [hlow b hb] at hm
   exact key b y bi hy hm e hor
  ·rcases h.new b x bi (by rw [hsub.1]; exact hb) hx hm with h1 | ⟨b0, x0, bi0, g0, h2, h3, h4⟩
   ·have := (hs.blk b' x' bi' hx' hm').lt
    omega
   ·exact key b0 x0 bi0 h2 h3 (h4.trans e) (.inl g0)
 have own2 : OwnOk (σ.over τ τ') μ' w' := by
  refine ⟨h.sim.abs.1, fun b x bi hx hm hb => ?_⟩
  rcases kind b x hx with ⟨k1, _⟩ | ⟨k1, k2, k3⟩
  ·exact h.sim.abs.2 b x bi k1 hm hb
  ·rw [hlow b k1] at hm
   have := (hs.blk b x bi k3 hm).lt
   rcases h.own _ hb with h4 | h4
   ·exact hs.abs.2 b x bi k3 hm h4
   ·omega
 refine ⟨hn, fun b h1 h2 => h.fresh b (by rw [hsub.1]; exact h1) h2, fun b hb => h.ext b (by rw [hsub.1]; exact hb), ⟨h.sim.glob, fun b x bi hx hm => ?_, fun b b' x x' bi bi' hx hx' hm hm' e => ?_, fun b x bi hG hx hm => ?_, own2⟩, h.size, h.os, h.tape, h.output, fun b x bi hb hx hm => ?_, fun b x hb hx => ?_, hsub.1 ▸ h.low, h.own, fun B hB hnB hk => h.keep B hB hnB fun b x bi hG hx hm => hk b x bi hG (hsub.2.1 b x hx) hm⟩
 ·rcases kind b x hx with ⟨h1, _⟩ | ⟨h1, h2, h3⟩
  ·exact h.sim.blk b x bi h1 hm
  ·rw [hlow b h1] at hm
   have hb := hs.blk b x bi h3 hm
   exact hb.keep (h.keep bi.blk hb.lt (hs.abs.2 b x bi h3 hm) fun b0 x0 bi0 g0 hx0 hm0 e => by
    have := hs.inj b0 b x0 x bi0 bi (hsub.2.1 _ _ hx0) h3 hm0 hm e (.inl g0)
    rw [this, h2] at hx0
    cases hx0) h.extE
 ·rcases kind b x hx with ⟨h1, h1'⟩ | ⟨h1, h2, h3⟩
  ·rcases kind b' x' hx' with ⟨k1, _⟩ | ⟨k1, k2, k3⟩
   ·exact h.sim.inj b b' x x' bi bi' h1 k1 hm hm' e
   ·exact fun hor => absurd e (apart b x bi b' x' bi' h1 h1' hm k1 k2 k3 hm' hor)
  ·rcases kind b' x' hx' with ⟨k1, k1'⟩ | ⟨k1, k2, k3⟩
   ·exact fun hor => absurd e.symm (apart b' x' bi' b x bi k1 k1' hm' h1 h2 h3 hm hor.symm)
   ·rw [hlow b h1] at hm
    rw [hlow b' k1] at hm'
    exact hs.inj b b' x x' bi bi' h3 k3 hm hm' e
 ·rcases kind b x hx with ⟨h1, _⟩ | ⟨h1, h2, h3⟩
  ·exact h.sim.rw_ b x bi hG h1 hm
  ·rw [hlow b h1] at hm
   exact hs.rw_ b x bi hG h3 hm
 ·rw [over_high hb] at hx
  rcases h.new b x bi (by rw [hsub.1]; exact hb) hx hm with h1 | ⟨b0, x0, bi0, g1, g2, g3, g4⟩
  ·exact .inl h1
  ·exact .inr ⟨b0, x0, bi0, g1, hsub.2.1 _ _ g2, g3, g4⟩
 ·rcases kind b x hx with ⟨h1, h2⟩ | ⟨_, _, h3⟩
  ·obtain ⟨y, hy⟩ := h2 hb
   exact ⟨y, hsub.2.1 _ _ hy⟩
  ·exact ⟨x, h3⟩
theorem Stp.forget {μ μ' : Mu} {σ σ' τ' : Mem} {w w' : World} (h : Stp G σ μ w σ' μ' w') (hs : Sub τ' σ') : Stp G σ μ w τ' μ' w' :=
 ⟨by rw [hs.1]; exact h.next, fun b h1 h2 => h.fresh b h1 (by rw [← hs.1]; exact h2), fun b hb => h.ext b (by rw [← hs.1]; exact hb), h.sim.sub hs, h.size, h.os, h.tape, h.output, fun b x bi hb hx => h.new b x bi hb (hs.2.1 b x hx), fun b x hb hx => h.live b x hb (hs.2.1 b x hx), h.low, h.own, h.keep⟩
theorem SCall.frame {f : FuncId} {args : Array Value} {σ τ τ' : Mem} {v : Value} (h : SCall G P f args τ v τ') (hsub : Sub τ σ) : SCall G P f args σ v (σ.over τ τ') := by
 refine ⟨by have := h.1; rw [hsub.1] at this; exact this, fun μ w cargs hs hG hf ha => ?_⟩
 refine (h.2 μ w cargs (hs.sub hsub) (by rw [hsub.1]; exact hG) (fun b h1 h2 => hf b (by rw [← hsub.1]; exact h1) h2) ha).mono ?_
 rintro e w' ⟨vc, μ', rfl, hst, hv⟩
 exact ⟨vc, μ', rfl, hst.frame hs hsub, hv⟩
theorem SCall.forget {f : FuncId} {args : Array Value} {σ σ' τ' : Mem} {v : Value} (h : SCall G P f args σ v σ') (hs : Sub τ' σ') : SCall G P f args σ v τ' := by
 refine ⟨by rw [hs.1]; exact h.1, fun μ w cargs hsim hG hf ha => ?_⟩
 refine (h.2 μ w cargs hsim hG (fun b h1 h2 => hf b h1 (by rw [hs.1]; exact h2)) ha).mono ?_
 rintro e w' ⟨vc, μ', rfl, hst, hv⟩
 exact ⟨vc, μ', rfl, hst.forget hs, hv⟩
def eqE : List (Value × Value) → List (Value × Value) → Bool
 | [], [] => true
 | a :: l, b :: m => eqV 3 a.1 b.1 && eqV 3 a.2 b.2 && eqE l m
 | _, _ => false
theorem eqE_eq : ∀ (a b : List (Value × Value)), eqE a b = true → a = b
 | [], [], _ => rfl
 | a :: l, b :: m, h => by
  simp only [eqE, Bool.and_eq_true] at h
  obtain ⟨a1, a2⟩ := a
  obtain ⟨b1, b2⟩ := b
  rw [show a1 = b1 from eqV_eq 3 _ _ h.1.1, show a2 = b2 from eqV_eq 3 _ _ h.1.2, eqE_eq l m h.2]
 | [], _ :: _, h => by cases h
 | _ :: _, [], h => by cases h
def eqB : Blk2 → Blk2 → Bool
 | .row ⟨cs, t, g⟩, .row ⟨ds, u, k⟩ => cond (Nat.beq t u) (cond (g == k) (eqL cs ds) false) false
 | .ents es c, .ents fs d => cond (Nat.beq c d) (eqE es fs) false
 | _, _ => false
theorem eqB_eq : ∀ {a b : Blk2}, eqB a b = true → a = b
 | .row ⟨cs, t, g⟩, .row ⟨ds, u, k⟩, h => by
  simp only [eqB] at h
  cases h1 : Nat.beq t u with
  | false => rw [h1] at h; cases h
  | true =>
   rw [h1] at h
   simp only [cond_true] at h
   cases h2 : (g == k) with
   | false => rw [h2] at h; cases h
   | true =>
    rw [h2] at h
    rw [eqL_eq _ _ h, Nat.eq_of_beq_eq_true h1, eq_of_beq h2]
 | .ents es c, .ents fs d, h => by
  simp only [eqB] at h
  cases h1 : Nat.beq c d with
  | false => rw [h1] at h; cases h
  | true => rw [h1] at h; rw [eqE_eq _ _ h, Nat.eq_of_beq_eq_true h1]
 | .row _, .iter _ _, h => by cases h
 | .row _, .ents _ _, h => by cases h
 | .row _, .defs _, h => by cases h
 | .row _, .mit _ _ _ _, h => by cases h
 | .row _, .loop .., h => by cases h
 | .iter _ _, _, h => by cases h
 | .ents _ _, .row _, h => by cases h
 | .ents _ _, .iter _ _, h => by cases h
 | .ents _ _, .defs _, h => by cases h
 | .ents _ _, .mit _ _ _ _, h => by cases h
 | .mit _ _ _ _, _, h => by cases h
 | .ents _ _, .loop .., h => by cases h
 | .defs _, _, h => by cases h
 | .loop .., _, h => by cases h
structure Tr where
 f : Nat
 args : List Value
 l0 : List (Nat × Blk2)
 n0 : Nat
 v : Value
 l1 : List (Nat × Option Blk2)
 n1 : Nat
noncomputable def putsL (l : List (Nat × Option Blk2)) (t : T EBlk) : T EBlk := List.rec (motive := fun _ => T EBlk) t (fun x _ ih => ih.put (match x.2 with | some y => some (.b y) | none => none) x.1) l
noncomputable def findB (b : Nat) (l : List (Nat × Option Blk2)) : Option (Option Blk2) := match l with
 | [] => none
 | x :: l => if b = x.1 then some x.2 else findB b l
theorem putsL_get (l : List (Nat × Option Blk2)) (t : T EBlk) (b : Nat) : (putsL l t).get b = match findB b l with | some o => o.map .b | none => t.get b := by
 induction l with
 | nil => rfl
 | cons x l ih =>
  show ((putsL l t).put (match x.2 with | some y => some (.b y) | none => none) x.1).get b = _
  rw [T.get_put, findB]
  by_cases h : b = x.1
  ·rw [if_pos h, if_pos h]
   cases x.2 <;> rfl
  ·rw [if_neg h, if_neg h, ih]
noncomputable def litE (l : List (Nat × Option Blk2)) (n : Nat) : EM := ⟨putsL l .nil, n⟩
theorem litE_get (l : List (Nat × Option Blk2)) (n b : Nat) : (litE l n).mem.get b = if b < n then (match findB b l with | some o => o | none => none) else none := by
 unfold Mem.get
 show (if b < n then (match (putsL l .nil).get b with | some x => some (toB x) | none => none) else none) = _
 by_cases h : b < n
 ·rw [if_pos h, if_pos h, putsL_get]
  cases findB b l with
  | none => rfl
  | some o => cases o <;> rfl
 ·rw [if_neg h, if_neg h]
noncomputable def Tr.pre (t : Tr) : EM := litE (t.l0.map fun x => (x.1, some x.2)) t.n0
noncomputable def Tr.post (t : Tr) : EM := litE t.l1 t.n1
noncomputable def Tr.app (t : Tr) (e : EM) : EM := ⟨putsL t.l1 e.m, t.n1⟩
noncomputable def noneFrom (t : T EBlk) (b k : Nat) : Bool := Nat.rec (motive := fun _ => Nat → Bool) (fun _ => true) (fun _ ih b => match t.get b with | none => ih (Nat.add b 1) | some _ => false) k b
theorem noneFrom_at (t : T EBlk) : ∀ (k b : Nat), noneFrom t b k = true → ∀ c, b ≤ c → c < b + k → t.get c = none
 | 0, b, _, c, h1, h2 => by omega
 | k + 1, b, h, c, h1, h2 => by
  have e : noneFrom t b (k + 1) = match t.get b with | none => noneFrom t (b + 1) k | some _ => false := rfl
  rw [e] at h
  split at h
  ·rename_i hb
   rcases Nat.lt_or_ge b c with h3 | h3
   ·exact noneFrom_at t k (b + 1) h c (by omega) (by omega)
   ·obtain rfl : c = b := by omega
    exact hb
  ·cases h
noncomputable def liesB (e : EM) (l : List (Nat × Blk2)) : Bool := allR (fun x => match e.mem.get x.1 with | some y => eqB y x.2 | none => false) l
noncomputable def Tr.fits (t : Tr) (e : EM) : Bool := cond (Nat.beq e.next t.n0) (cond (liesB e t.l0) (noneFrom e.m t.n0 (Nat.sub t.n1 t.n0)) false) false
def domB (b : Nat) (l : List Nat) : Bool := l.any (Nat.beq b)
noncomputable def Tr.wf (t : Tr) : Bool := Nat.ble t.n0 t.n1 && (t.l1.all fun x => Nat.ble t.n0 x.1 || domB x.1 (t.l0.map (·.1))) && (t.l0.all fun x => domB x.1 (t.l1.map (·.1)))
def Tr.Right (t : Tr) (G : Nat) (P : Program) : Prop := t.wf = true ∧ SCall G P t.f t.args.toArray t.pre.mem t.v t.post.mem
theorem findB_some {b : Nat} {o : Option Blk2} : ∀ {l : List (Nat × Option Blk2)}, findB b l = some o → (b, o) ∈ l
 | [], h => by cases h
 | x :: l, h => by
  rw [findB] at h
  split at h
  ·rename_i hb; cases h; subst hb; exact List.mem_cons_self
  ·exact List.mem_cons_of_mem _ (findB_some h)
theorem findB_none {b : Nat} : ∀ {l : List (Nat × Option Blk2)}, findB b l = none → ∀ o, (b, o) ∉ l
 | [], _, o, h => by cases h
 | x :: l, hn, o, h => by
  rw [findB] at hn
  split at hn
  ·cases hn
  ·rename_i hb
   rcases List.mem_cons.1 h with h | h
   ·subst h; exact hb rfl
   ·exact findB_none hn o h
theorem domB_mem {b : Nat} {l : List Nat} (h : domB b l = true) : b ∈ l := by
 unfold domB at h
 obtain ⟨x, h1, h2⟩ := List.any_eq_true.1 h
 rw [Nat.eq_of_beq_eq_true h2]
 exact h1
theorem Tr.call {t : Tr} (ht : t.Right G P) {e : EM} (hf : t.fits e = true) : SCall G P t.f t.args.toArray e.mem t.v (t.app e).mem := by
 obtain ⟨hwf, hc⟩ := ht
 unfold Tr.fits at hf
 cases h1 : Nat.beq e.next t.n0 with
 | false => rw [h1] at hf; cases hf
 | true =>
  rw [h1] at hf
  simp only [cond_true] at hf
  cases h2 : liesB e t.l0 with
  | false => rw [h2] at hf; cases hf
  | true =>
   rw [h2] at hf
   simp only [cond_true] at hf
   have hn0 := Nat.eq_of_beq_eq_true h1
   unfold Tr.wf at hwf
   simp only [Bool.and_eq_true, List.all_eq_true, Bool.or_eq_true] at hwf
   obtain ⟨⟨w1, w2⟩, w3⟩ := hwf
   have w1 : t.n0 ≤ t.n1 := by simpa using w1
   have pre_get : ∀ b, t.pre.mem.get b = if b < t.n0 then (match findB b (t.l0.map fun x => (x.1, some x.2)) with | some o => o | none => none) else none := fun b => litE_get _ _ _
   have hsub : Sub t.pre.mem e.mem := by
    refine ⟨hn0.symm, fun b x hx => ?_, rfl⟩
    rw [pre_get] at hx
    split at hx
    ·split at hx
     ·rename_i o ho
      subst hx
      obtain ⟨y, hy, he⟩ := List.mem_map.1 (findB_some ho)
      cases he
      unfold liesB at h2
      rw [allR_eq] at h2
      have := List.all_eq_true.1 h2 y hy
      split at this
      ·rename_i z hz; rw [hz, eqB_eq this]
      ·cases this
     ·cases hx
    ·cases hx
   refine (hc.frame hsub).forget ⟨rfl, fun b x hx => ?_, rfl⟩
   have hnx : e.mem.next ≤ t.post.mem.next := by show e.next ≤ t.n1; omega
   have hlt : b < t.n1 := Mem.lt hx
   have hget : (t.app e).mem.get b = match findB b t.l1 with | some o => o | none => (match e.m.get b with | some x => some (toB x) | none => none) := by
    unfold Mem.get
    show (if b < t.n1 then (match (putsL t.l1 e.m).get b with | some x => some (toB x) | none => none) else none) = _
    rw [if_pos hlt, putsL_get]
    cases findB b t.l1 with
    | none => rfl
    | some o => cases o <;> rfl
   rw [hget] at hx
   have hpost : t.post.mem.get b = match findB b t.l1 with | some o => o | none => none := by
    show (litE t.l1 t.n1).mem.get b = _
    rw [litE_get, if_pos hlt]
   rcases Nat.lt_or_ge b t.n0 with hb | hb
   ·rw [over_low hnx (by show b < e.next; omega), pre_get, if_pos hb]
    split at hx
    ·rename_i o ho
     subst hx
     have hm := findB_some ho
     have hd := w2 _ hm
     have hd : b ∈ t.l0.map (·.1) := by
      rcases hd with h | h
      ·have : t.n0 ≤ b := by simpa using h
       omega
      ·exact domB_mem h
     obtain ⟨y, hy, hyb⟩ := List.mem_map.1 hd
     cases hfb : findB b (t.l0.map fun x => (x.1, some x.2)) with
     | none => exact absurd (List.mem_map.2 ⟨y, hy, by rw [← hyb]⟩) (findB_none hfb (some y.2))
     | some o' =>
      obtain ⟨z, _, hz⟩ := List.mem_map.1 (findB_some hfb)
      cases hz
      simp only
      rw [hpost, ho]
    ·rename_i hno
     cases hfb : findB b (t.l0.map fun x => (x.1, some x.2)) with
     | none =>
      simp only
      show e.mem.get b = _
      unfold Mem.get
      have : b < e.mem.next := by show b < e.next; omega
      rw [if_pos this]
      exact hx
     | some o' =>
      exfalso
      obtain ⟨z, hz1, hz2⟩ := List.mem_map.1 (findB_some hfb)
      cases hz2
      have := domB_mem (w3 _ hz1)
      obtain ⟨y, hy, hyb⟩ := List.mem_map.1 this
      exact findB_none hno y.2 (by rw [← hyb]; exact hy)
   ·rw [over_high (by show e.next ≤ b; omega), hpost]
    split at hx
    ·exact hx
    ·rw [noneFrom_at _ _ _ hf b hb (by have : t.n1.sub t.n0 = t.n1 - t.n0 := rfl; omega)] at hx
     cases hx
end Go.Proofs.YtjcmdifpkafdkaaDoor
namespace Go.Proofs.YtjcmdifpkafdkaaDoor
variable {P : Program} {G : Nat}

abbrev Out := Option (Exit × T Value × List DItem × EM)
noncomputable def argTree (l : List Value) : T Value := (l.foldl (fun (x : T Value × Nat) v => (x.1.put (some v) x.2, x.2 + 1)) (T.nil, 0)).1
theorem argTree_get (l : List Value) : tmG (argTree l) = fun t => l.getD t undef := by
 have key : ∀ (l : List Value) (tr : T Value) (n : Nat) (t : Nat), tmG ((l.foldl (fun (x : T Value × Nat) v => (x.1.put (some v) x.2, x.2 + 1)) (tr, n)).1) t = if n ≤ t ∧ t < n + l.length then l.getD (t - n) undef else tmG tr t := by
  intro l
  induction l with
  | nil =>
   intro tr n t
   have : ¬ (n ≤ t ∧ t < n + ([] : List Value).length) := fun h => by have h1 := h.1; have h2 := h.2; rw [List.length_nil] at h2; omega
   rw [if_neg this]
   rfl
  | cons v l ih =>
   intro tr n t
   simp only [List.foldl_cons]
   rw [ih, tmG_put]
   unfold upd
   simp only [List.length_cons]
   rcases Nat.lt_trichotomy t n with h | h | h
   ·rw [if_neg (by omega), if_neg (by omega), if_neg (by omega)]
   ·rw [if_neg (by omega), if_pos h, if_pos (by omega)]; simp [h]
   ·by_cases h2 : t < n + 1 + l.length
    ·rw [if_pos (by omega), if_pos (by omega), show t - n = (t - (n + 1)) + 1 by omega]; simp
    ·rw [if_neg (by omega), if_neg (by omega), if_neg (by omega)]
 funext t
 unfold argTree
 rw [key]
 by_cases h : t < l.length
 ·rw [if_pos (by omega)]; simp
 ·rw [if_neg (by omega)]
  rw [List.getD_eq_getElem?_getD, List.getElem?_eq_none (by omega)]
  rfl
noncomputable def resL (P : Program) (ta : Nat → Value) (σ : Mem) : List ResultVar → Option (List Value)
 | [] => some []
 | .tmp t :: l => (match resL P ta σ l with | some vs => some (ta t :: vs) | none => none)
 | .cell a t :: l => (match ta a with
  | .pointer (some ⟨b, p, none⟩) => (match σ.get b, uT P t with
   | some (.row r), some d => (match (if isAggD d then sizeT P t else some 1) with
    | some n => if p + n ≤ r.cs.length then (match varF P t ((r.cs.drop p).take n), resL P ta σ l with | some v, some vs => some (v :: vs) | _, _ => none) else none
    | none => none)
   | _, _ => none)
  | _ => none)
def tupV : List Value → Value
 | [v] => v
 | l => .tuple l.toArray
def resF (tmps : Array Value) : ResultVar → Sem Value
 | .tmp t => pure (tmps.getD t undef)
 | .cell a t => do loadVar t (← asAddr (tmps.getD a undef))
theorem results_eq (fn : Func) (tmps : Array Value) : results fn tmps = (do let vs ← fn.results.mapM (resF tmps); pure (if h : vs.size = 1 then vs[0] else .tuple vs)) := by
 unfold results
 congr 1
theorem asAddr_run (a : Addr) (w : World) : (asAddr (.pointer (some a))).run P w = .ok a w := rfl
theorem resL_right {nt : Nat} {ta : Nat → Value} {σ : Mem} {μ : Mu} {w : World} {tmps : Array Value} (hs : Sim G μ σ w) (ht : TRel μ nt ta tmps) : ∀ (l : List ResultVar) (vs : List Value), resL P ta σ l = some vs →
    ∃ vs' : List Value, (l.mapM (resF tmps)).run P w = .ok vs' w ∧ vs'.length = vs.length ∧ ∀ (i : Nat) x x', vs[i]? = some x → vs'[i]? = some x' → VRel μ x x'
  | [], vs, h => by cases h; exact ⟨[], rfl, rfl, by simp⟩
  | .tmp t :: l, vs, h => by
    simp only [resL] at h
    split at h
    · rename_i vs0 h0
      cases h
      obtain ⟨vs', g1, g2, g3⟩ := resL_right hs ht l vs0 h0
      refine ⟨tmps.getD t undef :: vs', ?_, by simp [g2], fun i x x' h1 h2 => ?_⟩
      · simp only [List.mapM_cons, Sem.run_bind, resF, Sem.run_pure, Result.andThen_ok, g1]
      · cases i with
        | zero => simp at h1 h2; rw [← h1, ← h2]; simpa using ht.2 t
        | succ i => exact g3 i x x' (by simpa using h1) (by simpa using h2)
    · cases h
  | .cell a t :: l, vs, h => by
    simp only [resL] at h
    split at h
    · rename_i b p ha
      split at h
      · rename_i r d hr hd
        split at h
        · rename_i n hn
          split at h
          · rename_i hfit
            split at h
            · rename_i v vs0 hv h0
              cases h
              obtain ⟨vs', g1, g2, g3⟩ := resL_right hs ht l vs0 h0
              have hp := ht.2 a
              rw [ha] at hp
              obtain ⟨bi, hb, e⟩ := hp.ptr_inv
              have hcin : CellsIn w μ b p ((r.cs.drop p).take n) := CellsIn.of_row hs hb hr fun i v hv => by
                rw [List.getElem?_take] at hv
                split at hv
                · rw [List.getElem?_drop] at hv; exact hv
                · cases hv
              obtain ⟨bi', cs', hb', hl', hcell, hrel⟩ := cells_of hcin
              rw [hb] at hb'
              cases hb'
              obtain ⟨v', h2, h3⟩ := varF_rel hl' hrel hv
              refine ⟨v' :: vs', ?_, by simp [g2], fun i x x' h1 h2 => ?_⟩
              · simp only [List.mapM_cons, Sem.run_bind, resF, e, asAddr_run, Result.andThen_ok, loadVar_run h2 hcell rfl, g1]
                rfl
              · cases i with
                | zero => simp at h1 h2; rw [← h1, ← h2]; exact h3
                | succ i => exact g3 i x x' (by simpa using h1) (by simpa using h2)
            · cases h
          · cases h
        · cases h
      · cases h
    · cases h
theorem sres {nt : Nat} {ta : Nat → Value} {σ : Mem} {fn : Func} {vs : List Value} (h : resL P ta σ fn.results.toList = some vs) : SRes G P nt fn ta σ (tupV vs) := fun μ w tmps hs ht => by
 obtain ⟨vs', g1, g2, g3⟩ := resL_right hs ht fn.results.toList vs h
 refine ⟨tupV vs', ?_, ?_⟩
 ·rw [results_eq, Array.mapM_eq_mapM_toList]
  simp only [Sem.run_bind, Sem.run_map]
  rw [g1]
  simp only [Result.andThen_ok, Sem.run_pure]
  congr 1
  match vs' with
  | [] => rfl
  | [x] => rfl
  | x :: y :: l => simp [tupV]
 ·match vs, vs', g2 with
  | [], [], _ => exact VRel.undef μ
  | [x], [y], _ => exact g3 0 x y rfl rfl
  | x :: x2 :: l, y :: y2 :: m, hl => exact .tuple _ _ (by simpa using hl.symm) fun i v v' h1 h2 => g3 i v v' (by simpa using h1) (by simpa using h2)
noncomputable def shutE (G : Nat) (dd : FuncId → Array Value → EM → Option EM) : List DItem → EM → Option EM
 | [], e => some e
 | .mark b :: bs, e => cond (Nat.ble G b) (match e.mem.get b with
  | some (.defs true) => shutE G dd bs (e.put b (.b (.defs false)))
  | _ => none) none
 | .call f as cs :: bs, e => (match dd f (as ++ cs) e with
  | some e1 => shutE G dd bs e1
  | none => none)
theorem shutE_right {dd : FuncId → Array Value → EM → Option EM} (hd : ∀ f args e e', dd f args e = some e' → plainFn P f = true ∧ SDCall G P f args e.mem e'.mem) : ∀ (dm : List DItem) (e e2 : EM), shutE G dd dm e = some e2 → Shut G P dm e.mem e2.mem
 | [], e, e2, h => by cases h; exact .nil _
 | .mark b :: bs, e, e2, h => by
  simp only [shutE] at h
  cases hb : Nat.ble G b with
  | false => rw [hb] at h; cases h
  | true =>
   rw [hb] at h
   simp only [cond_true] at h
   split at h
   ·rename_i hg
    have h1 := shutE_right hd bs _ e2 h
    rw [EM.mem_put] at h1
    exact .mark hg (by simpa using hb) h1
   ·cases h
 | .call f as cs :: bs, e, e2, h => by
  simp only [shutE] at h
  split at h
  ·rename_i e1 hc
   obtain ⟨h1, h2⟩ := hd f _ e e1 hc
   exact .call (fun as cs w => invoke_func h1 cs as w) h2 (shutE_right hd bs e1 e2 h)
  ·cases h
noncomputable def setPsE (tr : T Value) (ps : List Nat) (vs : List Value) : T Value := (ps.zip vs).foldl (fun t (x : Nat × Value) => t.put (some x.2) x.1) tr
theorem setPsE_tm (tr : T Value) : ∀ (ps : List Nat) (vs : List Value), tmG (setPsE tr ps vs) = setPs (tmG tr) ps vs := by
 have key : ∀ (l : List (Nat × Value)) (tr : T Value), tmG (l.foldl (fun t (x : Nat × Value) => t.put (some x.2) x.1) tr) = l.foldl (fun t (x : Nat × Value) => upd t x.1 x.2) (tmG tr) := by
  intro l
  induction l with
  | nil => intro tr; rfl
  | cons x l ih => intro tr; simp only [List.foldl_cons]; rw [ih, tmG_put]
 intro ps vs
 exact key _ tr
noncomputable def loopAt (e : EM) (l : Nat) : Option EBlk := cond (Nat.blt l e.next) (match e.m.get l with | some (.loop a b c d f g h i) => some (.loop a b c d f g h i) | _ => none) none
theorem loopAt_get {e : EM} {l : Nat} {a : LoopState} {b : Option Code} {c : Nat} {d : T Value} {f : Array Tmp} {g h : Code} {i : Nat} (hl : loopAt e l = some (.loop a b c d f g h i)) : e.mem.get l = some (.loop a b c (tmG d) f g h i) := by
 unfold loopAt at hl
 cases hb : Nat.blt l e.next with
 | false => rw [hb] at hl; cases hl
 | true =>
  rw [hb] at hl
  simp only [cond_true] at hl
  split at hl
  ·rename_i hg
   cases hl
   have : l < e.next := by simpa [Nat.blt_eq] using hb
   unfold Mem.get EM.mem
   simp only [this, if_true, hg, toB]
  ·cases hl
def outThen (k : T Value → List DItem → EM → Out) : Out → Out
 | some (.normal, tr1, dm1, e1) => k tr1 dm1 e1
 | r => r
noncomputable def loopE (body : T Value → List DItem → EM → Out) (n : Nat) : T Value → List DItem → EM → Out :=
 Nat.rec (motive := fun _ => T Value → List DItem → EM → Out) (fun _ _ _ => none) (fun _ ih tr dm e => outThen ih (body tr dm e)) n
theorem loopE_succ (body : T Value → List DItem → EM → Out) (k : Nat) (tr : T Value) (dm : List DItem) (e : EM) : loopE body (k + 1) tr dm e = outThen (loopE body k) (body tr dm e) := rfl
noncomputable def doYield (G : Nat) (code : Option Nat → Nat → Code → T Value → List DItem → EM → Out) (l : Nat) (args : List Value) (e : EM) : Option (Bool × EM) :=
  match loopAt e l with
  | some (.loop _ _ nt tr ps as bo _) => cond (Nat.ble G l && Nat.beq args.length ps.size && ps.toList.all fun p => Nat.blt p nt)
      (match code (some l) nt as (setPsE tr ps.toList args) [] e with
      | some (.normal, tr2, dm1, e1) => (match loopAt e1 l with
        | some (.loop .ready pe1 nt1 tr1 ps1 as1 bo1 df1) => (match code (some l) nt bo tr2 dm1 (e1.put l (.loop .busy pe1 nt1 tr1 ps1 as1 bo1 df1)) with
          | some (ex, _, _, e3) => (match roundOut ex, loopAt e3 l with
            | some (b, sn, pn), some (.loop _ _ nt3 tr3 ps3 as3 bo3 df3) => some (b, e3.put l (.loop sn pn nt3 tr3 ps3 as3 bo3 df3))
            | _, _ => none)
          | none => none)
        | _ => none)
      | _ => none) none
  | _ => none
def exOk : Exit → Bool | .normal => true | .ret => true | _ => false
noncomputable def recRun (D : Doer) (G : Nat) (P : Program) (nt : Nat) (ops : Array Oper) (e : EM) (tr : T Value) : Option (T Value × EM) :=
 match ops.toList with
 | o :: l => (match o.guard with
  | none => cond (isRec o) (match putDst nt tr .nilIface o.dst with
   | some tr1 => (match regRun D G P nt ops l tr1 e with
    | some (_, tr2, e2) => some (tr2, e2)
    | none => none)
   | none => none) none
  | some _ => none)
 | [] => none
abbrev DOut := Option (Exit × T Value × EM)
noncomputable def doD (D : Doer) (G : Nat) (P : Program) (code : Option Nat → Nat → Code → T Value → List DItem → EM → Out) (nt : Nat) : Nat → Code → T Value → EM → DOut
 | 0, _, _, _ => none
 | k + 1, c, tr, e => (match c with
  | .seq x y => (match doD D G P code nt k x tr e with
   | some (.normal, tr1, e1) => doD D G P code nt k y tr1 e1
   | r => r)
  | .cond c x y => (match oper2 (tmG tr) c with
   | .bool b => cond b (doD D G P code nt k x tr e) (doD D G P code nt k y tr e)
   | _ => none)
  | .region id ops draw => cond (!draw && ops.toList.any isRec) (match recRun D G P nt ops e tr with
   | some (tr1, e1) => some (.normal, tr1, e1)
   | none => none) (match code none nt (.region id ops draw) tr [] e with
   | some (ex, tr', [], e') => some (ex, tr', e')
   | _ => none)
  | c => (match code none nt c tr [] e with
   | some (ex, tr', [], e') => some (ex, tr', e')
   | _ => none))
noncomputable def doDef (D : Doer) (G : Nat) (P : Program) (code : Option Nat → Nat → Code → T Value → List DItem → EM → Out) (f : FuncId) (args : Array Value) (e : EM) : Option EM :=
 match fT P f with
 | some fn => (match fn.body with
  | some c => cond (plainFn P f) (match force (args.size + (fn.ntmps - args.size)) (fun nt => doD D G P code nt 100 c (argTree args.toList) e) with
   | some (ex, tr', e') => cond (exOk ex) (match resL P (tmG tr') e'.mem fn.results.toList with
    | some _ => some e'
    | none => none) none
   | none => none) none
  | none => none)
 | none => none
def panV : List PanicEntry → Option Value
 | [⟨v, false, false⟩] => cond (closedV 3 v) (some v) none
 | _ => none
theorem panV_eq {ch : List PanicEntry} {v : Value} (h : panV ch = some v) : ch = panC v ∧ closedV 3 v = true := by
  unfold panV at h
  split at h
  · rename_i u
    cases hc : closedV 3 u with
    | false => rw [hc] at h; cases h
    | true => rw [hc] at h; cases h; exact ⟨rfl, hc⟩
  · cases h
noncomputable def doDP (D : Doer) (G : Nat) (P : Program) (code : Option Nat → Nat → Code → T Value → List DItem → EM → Out) (nt : Nat) (v : Value) : Nat → Code → T Value → EM → DOut
  | 0, _, _, _ => none
  | k + 1, c, tr, e => (match c with
    | .seq x y => (match doDP D G P code nt v k x tr e with
      | some (.normal, tr1, e1) => doD D G P code nt k y tr1 e1
      | some r => some r
      | none => (match code none nt x tr [] e with
        | some (.normal, tr1, [], e1) => doDP D G P code nt v k y tr1 e1
        | _ => none))
    | .cond c x y => (match oper2 (tmG tr) c with
      | .bool b => cond b (doDP D G P code nt v k x tr e) (doDP D G P code nt v k y tr e)
      | _ => none)
    | .region _ ops draw => cond (!draw && ops.toList.any isRec) (match recRunP D G P nt ops v e tr with
      | some (tr1, e1) => some (.normal, tr1, e1)
      | none => none) none
    | _ => none)
noncomputable def doDefP (D : Doer) (G : Nat) (P : Program) (code : Option Nat → Nat → Code → T Value → List DItem → EM → Out) (v : Value) (f : FuncId) (args : Array Value) (e : EM) : Option EM :=
  match fT P f with
  | some fn => (match fn.body with
    | some c => cond (plainFn P f) (match force (args.size + (fn.ntmps - args.size)) (fun nt => doDP D G P code nt v 100 c (argTree args.toList) e) with
      | some (ex, tr', e') => cond (exOk ex) (match resL P (tmG tr') e'.mem fn.results.toList with
        | some _ => some e'
        | none => none) none
      | none => none) none
    | none => none)
  | none => none
noncomputable def shutPE (G : Nat) (dd ddp : FuncId → Array Value → EM → Option EM) : List DItem → EM → Option EM
  | [], _ => none
  | .mark b :: bs, e => cond (Nat.ble G b) (match e.mem.get b with
    | some (.defs true) => shutPE G dd ddp bs (e.put b (.b (.defs false)))
    | _ => none) none
  | .call f as cs :: bs, e => (match ddp f (as ++ cs) e with
    | some e1 => shutE G dd bs e1
    | none => none)
noncomputable def doRec (D : Doer) (G : Nat) (P : Program) (code : Option Nat → Nat → Code → T Value → List DItem → EM → Out) (fn : Func) (tr' : T Value) (dm' : List DItem) (e' : EM) : Exit → Option (Value × EM)
  | .panic ch => (match panV ch with
    | some v => (match shutPE G (doDef D G P code) (doDefP D G P code v) dm' e' with
      | some e2 => (match resL P (tmG tr') e2.mem fn.results.toList with
        | some vs => some (tupV vs, e2)
        | none => none)
      | none => none)
    | none => none)
  | _ => none
noncomputable def doCall0 (D : Doer) (G : Nat) (P : Program) (code : Option Nat → Nat → Code → T Value → List DItem → EM → Out) (f : FuncId) (args : Array Value) (e : EM) : Option (Value × EM) :=
  match fT P f with
  | some fn => (match fn.body with
    | some c => (match force (args.size + (fn.ntmps - args.size)) (fun nt => code none nt c (argTree args.toList) [] e) with
      | some (ex, tr', dm', e') => cond (exOk ex)
          (match shutE G (doDef D G P code) dm' e' with
          | some e2 => (match resL P (tmG tr') e2.mem fn.results.toList with
            | some vs => some (tupV vs, e2)
            | none => none)
          | none => none) (doRec D G P code fn tr' dm' e' ex)
      | none => none)
    | none => none)
  | none => none
noncomputable def doPan (_G : Nat) (P : Program) (code : Option Nat → Nat → Code → T Value → List DItem → EM → Out) (f : FuncId) (args : Array Value) (e : EM) : Option (Value × EM) :=
  match fT P f with
  | some fn => (match fn.body with
    | some c => (match force (args.size + (fn.ntmps - args.size)) (fun nt => code none nt c (argTree args.toList) [] e) with
      | some (.panic ch, _, [], e') => (match panV ch with
        | some v => some (v, e')
        | none => none)
      | _ => none)
    | none => none)
  | none => none
def noDoer : Doer := ⟨fun _ _ _ => none, fun _ _ _ => none, []⟩
theorem noDoer_right : noDoer.Right G P := ⟨fun _ _ _ _ _ h => (by cases h), fun _ _ _ _ _ _ _ _ _ _ _ h => (by cases h), fun _ h => by cases h⟩
noncomputable def doCall (G : Nat) (P : Program) (code : Option Nat → Nat → Code → T Value → List DItem → EM → Out) (f : FuncId) (args : Array Value) (e : EM) : Option (Value × EM) := doCall0 noDoer G P code f args e
noncomputable def doRange (_G : Nat) (P : Program) (call : FuncId → Array Value → EM → Option (Value × EM)) (rd : Option Nat) (nt : Nat) (g : Operand) (ps : Array Tmp) (as bo : Code) (tr : T Value) (dm : List DItem) (e : EM) : Out :=
  match g with
  | .const _ => none
  | .global _ => none
  | g => (match oper2 (tmG tr) g with
    | .func (.func f) fa ca => cond (plainFn P f) (match rd with
      | none => (match call f (fa ++ #[.func (.yield (e.next + 1)) #[] #[]] ++ ca) ((e.push (.b (.defs true))).push (.loop .ready none nt tr ps as bo e.next)) with
        | some (_, e2) => (match loopAt e2 (e.next + 1) with
          | some (.loop st pe nt' tr' ps' as' bo' df') => (match st == .busy, leftBy pe with
            | false, some ex => some (ex, tr, .mark e.next :: dm, e2.put (e.next + 1) (.loop .exhausted pe nt' tr' ps' as' bo' df'))
            | _, _ => none)
          | _ => none)
        | none => none)
      | some l0 => (match loopAt e l0 with
        | some (.loop _ _ _ _ _ _ _ df0) => (match call f (fa ++ #[.func (.yield e.next) #[] #[]] ++ ca) (e.push (.loop .ready none nt tr ps as bo df0)) with
          | some (_, e2) => (match loopAt e2 e.next with
            | some (.loop st pe nt' tr' ps' as' bo' df') => (match st == .busy, leftBy pe with
              | false, some ex => some (ex, tr, dm, e2.put e.next (.loop .exhausted pe nt' tr' ps' as' bo' df'))
              | _, _ => none)
            | _ => none)
          | none => none)
        | _ => none)) none
    | _ => none)
noncomputable def doRegion (D : Doer) (G : Nat) (P : Program) (nt : Nat) (ops : Array Oper) (draw : Bool) (tr : T Value) (dm : List DItem) (e : EM) : Out :=
  match regRun D G P nt ops ops.toList tr e with
  | some (rs, tr2, e2) => cond draw
      (force (effMask rs 0) fun em => cond (P.follows .mixedOrders && Nat.ble G e.next && chkText G nt ops (masks ops.toList []) && chkEff (masks ops.toList []) em ops.size && chkDyn (masks ops.toList []) em ops.size (stagesE rs 0 ops.size e2) rs 0) (some (.normal, tr2, dm, e2)) none)
      (some (.normal, tr2, dm, e2))
  | none => none
def splitD (ops : Array Oper) : Option (List Oper × Oper) := match ops.toList.reverse with
 | o :: l => (match o.op with
  | .defer _ => some (l.reverse, o)
  | _ => none)
 | [] => none
def deferOf (_P : Program) (o : Oper) (ρ : Operand → Value) : Option DItem := match o.op with
 | .defer c => (match c.callee with
  | .value x => (match ρ x with
   | .func (.func f) fa ca => some (.call f (fa ++ c.args.map ρ) ca)
   | _ => none)
  | _ => none)
 | _ => none
noncomputable def doDefer (D : Doer) (G : Nat) (P : Program) (nt : Nat) (ops : Array Oper) (tr : T Value) (dm : List DItem) (e : EM) (l : List Oper) (o : Oper) : Out :=
 match regRun D G P nt ops l tr e with
 | some (_, tr2, e2) => (match o.guard, o.dst, deferOf P o (oper2 (tmG tr2)) with
  | none, none, some it => cond (opndOk G o) (some (.normal, tr2, it :: dm, e2)) none
  | _, _, _ => none)
 | none => none
noncomputable def doRegionD (D : Doer) (G : Nat) (P : Program) (rd : Option Nat) (nt : Nat) (ops : Array Oper) (draw : Bool) (tr : T Value) (dm : List DItem) (e : EM) : Out :=
 match splitD ops with
 | none => doRegion D G P nt ops draw tr dm e
 | some (l, o) => cond draw none (match rd with
  | none => doDefer D G P nt ops tr dm e l o
  | some _ => none)
noncomputable def panRegion (D : Doer) (G : Nat) (P : Program) (code : Option Nat → Nat → Code → T Value → List DItem → EM → Out) (nt : Nat) (ops : Array Oper) (draw : Bool) (tr : T Value) (dm : List DItem) (e : EM) : Out :=
 cond draw none (match panRun D (doPan G P code) G P nt ops ops.toList tr e with
  | some (v, tr2, e2) => some (.panic (panC v), tr2, dm, e2)
  | none => none)
def outReg (y : Out) : Out → Out
 | some r => some r
 | none => y
def outCond (x y : Out) : Value → Out
 | .bool b => cond b x y
 | _ => none
def outBlk (id : Nat) : Out → Out
 | some (ex, r) => some (outOf id ex, r)
 | none => none
def outScp : Out → Out
 | some (ex, r) => cond (notGoto ex) (some (ex, r)) none
 | none => none
structure Kn where
 calls : List (Nat × List Value × Value)
 rows : List (Nat × List Value)
 same : List Nat
 trans : List Tr := []
noncomputable def rowsOk (rows : List (Nat × List Value)) (e : EM) : Bool := allR (fun x => match e.mem.get x.1 with | some (.row r) => eqL r.cs x.2 | _ => false) rows
noncomputable def findK (f : Nat) (args : List Value) (l : List (Nat × List Value × Value)) : Option Value := List.rec (motive := fun _ => Option Value) none (fun x _ ih => cond (Nat.beq f x.1) (cond (eqL args x.2.1) (some x.2.2) ih) ih) l
theorem findK_mem {f : Nat} {args : List Value} {v : Value} : ∀ {l : List (Nat × List Value × Value)}, findK f args l = some v → (f, args, v) ∈ l
 | [], h => by cases h
 | x :: l, h => by
  have e : findK f args (x :: l) = cond (Nat.beq f x.1) (cond (eqL args x.2.1) (some x.2.2) (findK f args l)) (findK f args l) := rfl
  rw [e] at h
  cases h1 : Nat.beq f x.1 with
  | false => rw [h1] at h; exact List.mem_cons_of_mem _ (findK_mem h)
  | true =>
   rw [h1] at h
   cases h2 : eqL args x.2.1 with
   | false => rw [h2] at h; exact List.mem_cons_of_mem _ (findK_mem h)
   | true =>
    rw [h2] at h
    simp only [cond_true, Option.some.injEq] at h
    have h3 := eqL_eq _ _ h2
    have h4 := Nat.eq_of_beq_eq_true h1
    obtain ⟨a, b, c⟩ := x
    simp only at h h3 h4
    rw [h4, h3, h]
    exact List.mem_cons_self
noncomputable def kOut (K : Kn) (e : EM) (r : Option (Value × EM)) : Option Value → Option (Value × EM)
 | some v => cond (rowsOk K.rows e) (some (v, e)) none
 | none => r
noncomputable def findT (f : Nat) (args : List Value) (e : EM) (l : List Tr) : Option Tr := List.rec (motive := fun _ => Option Tr) none (fun x _ ih => cond (Nat.beq f x.f) (cond (Nat.beq e.next x.n0) (cond (eqL args x.args) (cond (x.fits e) (some x) ih) ih) ih) ih) l
theorem findT_mem {f : Nat} {args : List Value} {e : EM} {t : Tr} : ∀ {l : List Tr}, findT f args e l = some t → t ∈ l ∧ f = t.f ∧ args = t.args ∧ t.fits e = true
 | [], h => by cases h
 | x :: l, h => by
  have e0 : findT f args e (x :: l) = cond (Nat.beq f x.f) (cond (Nat.beq e.next x.n0) (cond (eqL args x.args) (cond (x.fits e) (some x) (findT f args e l)) (findT f args e l)) (findT f args e l)) (findT f args e l) := rfl
  rw [e0] at h
  have rest : findT f args e l = some t → t ∈ x :: l ∧ f = t.f ∧ args = t.args ∧ t.fits e = true := fun h => by
   obtain ⟨h1, h2⟩ := findT_mem h
   exact ⟨List.mem_cons_of_mem _ h1, h2⟩
  cases h1 : Nat.beq f x.f with
  | false => rw [h1] at h; exact rest h
  | true =>
   cases h2 : Nat.beq e.next x.n0 with
   | false => rw [h1, h2] at h; exact rest h
   | true =>
    cases h3 : eqL args x.args with
    | false => rw [h1, h2, h3] at h; exact rest h
    | true =>
     cases h4 : x.fits e with
     | false => rw [h1, h2, h3, h4] at h; exact rest h
     | true =>
      rw [h1, h2, h3, h4] at h
      cases h
      exact ⟨List.mem_cons_self, Nat.eq_of_beq_eq_true h1, eqL_eq _ _ h3, h4⟩
noncomputable def tOut (e : EM) (r : Option (Value × EM)) : Option Tr → Option (Value × EM)
 | some t => some (t.v, t.app e)
 | none => r
noncomputable def callK (K : Kn) (call : FuncId → Array Value → EM → Option (Value × EM)) (f : FuncId) (args : Array Value) (e : EM) : Option (Value × EM) :=
 kOut K e (tOut e (call f args e) (findT f args.toList e K.trans)) (findK f args.toList K.calls)
def RowsAt (rows : List (Nat × List Value)) (σ : Mem) : Prop := ∀ g cs, (g, cs) ∈ rows → ∃ t b, σ.get g = some (.row ⟨cs, t, b⟩)
def Kn.Right (K : Kn) (G : Nat) (P : Program) : Prop := (∀ f args v, (f, args, v) ∈ K.calls → ∀ σ, RowsAt K.rows σ → SCall G P f args.toArray σ v σ) ∧ (∀ f, hasF f K.same = true → SameFn P f) ∧ ∀ t ∈ K.trans, t.Right G P
theorem rowsOk_at {rows : List (Nat × List Value)} {e : EM} (h : rowsOk rows e = true) : RowsAt rows e.mem := fun g cs hm => by
 unfold rowsOk at h
 rw [allR_eq] at h
 have := List.all_eq_true.1 h _ hm
 split at this
 ·rename_i r hr
  have hc : r.cs = cs := eqL_eq _ _ this
  subst hc
  exact ⟨r.t, r.g, hr⟩
 ·cases this
theorem callK_right {K : Kn} (hK : K.Right G P) {call : FuncId → Array Value → EM → Option (Value × EM)} (h : ∀ f args e v e', call f args e = some (v, e') → SCall G P f args e.mem v e'.mem) {f : FuncId} {args : Array Value} {e e' : EM} {v : Value} (hc : callK K call f args e = some (v, e')) : SCall G P f args e.mem v e'.mem := by
 unfold callK at hc
 cases hf : findK f args.toList K.calls with
 | none =>
  rw [hf] at hc
  replace hc : tOut e (call f args e) (findT f args.toList e K.trans) = some (v, e') := hc
  cases ht : findT f args.toList e K.trans with
  | none => rw [ht] at hc; exact h _ _ _ _ _ hc
  | some t =>
   rw [ht] at hc
   cases hc
   obtain ⟨h1, rfl, h3, h4⟩ := findT_mem ht
   have := Tr.call (hK.2.2 t h1) h4
   rw [← h3] at this
   simpa using this
 | some u =>
  rw [hf] at hc
  unfold kOut at hc
  cases h3 : rowsOk K.rows e with
  | false => rw [h3] at hc; cases hc
  | true =>
   rw [h3] at hc
   cases hc
   have := hK.1 f args.toList v (findK_mem hf) _ (rowsOk_at h3)
   simpa using this
abbrev CodeF := Option Nat → Nat → Code → T Value → List DItem → EM → Out
structure EvP where
 code : CodeF
 doer : Doer
noncomputable def evD (G : Nat) (P : Program) (K : Kn) (p : EvP) : Doer := ⟨callK K (doCall0 p.doer G P p.code), doYield G p.code, K.same⟩
noncomputable def evStep (G : Nat) (P : Program) (K : Kn) (n : Nat) (p : EvP) (rd : Option Nat) (nt : Nat) (c : Code) (tr : T Value) (dm : List DItem) (e : EM) : Out :=
 match c with
 | .skip => some (.normal, tr, dm, e)
 | .label _ => some (.normal, tr, dm, e)
 | .exit id => some (.exit id, tr, dm, e)
 | .ret => some (.ret, tr, dm, e)
 | .seq x y => outThen (p.code rd nt y) (p.code rd nt x tr dm e)
 | .cond c x y => outCond (p.code rd nt x tr dm e) (p.code rd nt y tr dm e) (oper2 (tmG tr) c)
 | .block id c => outBlk id (p.code rd nt c tr dm e)
 | .loop c => loopE (p.code rd nt c) n tr dm e
 | .scope c => outScp (p.code rd nt c tr dm e)
 | .region _ ops draw => outReg (panRegion (evD G P K p) G P p.code nt ops draw tr dm e) (doRegionD (evD G P K p) G P rd nt ops draw tr dm e)
 | .rangeFunc g ps as bo => doRange G P (doCall0 p.doer G P p.code) rd nt g ps as bo tr dm e
 | _ => none
noncomputable def evP (G : Nat) (P : Program) (K : Kn) (n : Nat) : EvP :=
 Nat.rec (motive := fun _ => EvP) ⟨fun _ _ _ _ _ _ => none, noDoer⟩ (fun n p => ⟨fun rd nt c tr dm e => evStep G P K n p rd nt c tr dm e, evD G P K p⟩) n
noncomputable def ev (G : Nat) (P : Program) (K : Kn) (n : Nat) : CodeF := (evP G P K n).code
def CodeRight (G : Nat) (P : Program) (code : Option Nat → Nat → Code → T Value → List DItem → EM → Out) : Prop :=
 ∀ rd nt c tr dm e ex tr' dm' e', code rd nt c tr dm e = some (ex, tr', dm', e') → SCode G P rd nt c (tmG tr) dm e.mem ex (tmG tr') dm' e'.mem
theorem SDCode.of {nt : Nat} {c : Code} {ta ta' : Nat → Value} {σ σ' : Mem} {ex : Exit} (h : SCode G P none nt c ta [] σ ex ta' [] σ') : SDCode G P nt c ta σ ex ta' σ' :=
 ⟨h.1, fun μ w a cs hs hG hf ht hd _ Q hQ => wpSIn_of_wpIn rfl (h.2 μ w a none hs hG hf ht (by rw [hd]; trivial) trivial _ fun a' w' μ' hd' hst htr => hQ a' w' μ' (by
  cases hdd : a'.defers with
  | nil => rfl
  | cons d ds => rw [hdd] at hd'; exact hd'.elim) hst htr)⟩
theorem SDCode.seq {nt : Nat} {x y : Code} {ta ta1 ta2 : Nat → Value} {σ σ1 σ2 : Mem} {ex : Exit} (h : SDCode G P nt x ta σ .normal ta1 σ1) (k : SDCode G P nt y ta1 σ1 ex ta2 σ2) : SDCode G P nt (.seq x y) ta σ ex ta2 σ2 :=
 ⟨Nat.le_trans h.1 k.1, fun μ w a cs hs hG hf ht hd hr Q hQ => wpSIn_seq (h.2 μ w a cs hs hG (hf.left k.1) ht hd hr _ fun a1 w1 μ1 hd1 hst htr =>
  k.2 μ1 w1 a1 cs hst.sim (Nat.le_trans hG hst.next) (hf.right hst) htr hd1 hr Q fun a2 w2 μ2 hd2 hst2 htr2 => hQ a2 w2 μ2 hd2 (hst.trans hst2) htr2)⟩
theorem SDCode.seq_out {nt : Nat} {x y : Code} {ta ta1 : Nat → Value} {σ σ1 : Mem} {ex : Exit} (h : SDCode G P nt x ta σ ex ta1 σ1) (hx : ex ≠ .normal) : SDCode G P nt (.seq x y) ta σ ex ta1 σ1 :=
 ⟨h.1, fun μ w a cs hs hG hf ht hd hr Q hQ => wpSIn_seq (h.2 μ w a cs hs hG hf ht hd hr _ fun a1 w1 μ1 hd1 hst htr => by
  have := hQ a1 w1 μ1 hd1 hst htr
  cases ex <;> first | exact absurd rfl hx | exact this)⟩
theorem SDCode.cond {nt : Nat} {x y : Code} {c : Operand} {ta ta1 : Nat → Value} {σ σ1 : Mem} {ex : Exit} {b : Bool} (hc : oper2 ta c = .bool b) (h : SDCode G P nt (if b then x else y) ta σ ex ta1 σ1) : SDCode G P nt (.cond c x y) ta σ ex ta1 σ1 :=
 ⟨h.1, fun μ w a cs hs hG hf ht hd hr Q hQ => wpSIn_cond (t := b) (by
  cases c with
  | tmp t => exact ((ht.2 t).bool_iff b).2 hc
  | const v => exact hc
  | global g => cases hc
  | func f => cases hc) (h.2 μ w a cs hs hG hf ht hd hr Q hQ)⟩
theorem wpSIn_recFirst {F : Fence} {n id : Nat} {ops : Array Oper} {Q : Exit → Act → List Frame → World → Prop} {a : Act} {cs : List Frame} {w : World} {o : Oper} (hfr : F.round = none) (ho : ops[0]? = some o) (hgd : o.guard = none) (hrun : (execOp a.eval o).run P w = .ok .recover w) (hab : ∀ f, o.about P w a.eval = some f → F.fn f) (hrec : recoverD cs = none)
    (h : wpOpsIn F n P ops (fun e a' w' => Q e a' cs w') (List.range' 1 (ops.size - 1)) (a.put o.dst .nilIface) w) : (Code.region id ops false).wpSIn F n P Q a cs w := by
  intro b k hb hro hF hroom
  obtain ⟨e, a', w', hq, harr⟩ := wp_opsIn _ _ w h b k cs (hro.trans hfr.symm) hF hroom
  have hsz : 0 < ops.size := (Array.getElem?_eq_some_iff.1 ho).1
  have hrange : List.range ops.size = 0 :: List.range' 1 (ops.size - 1) := by
    rw [List.range_eq_range']
    obtain ⟨m, hm⟩ : ∃ m, ops.size = m + 1 := ⟨ops.size - 1, by omega⟩
    rw [hm, List.range'_succ]
    simp
  have hw : Region.wanted o (yielded ops a.tmps) = true := by unfold Region.wanted; rw [hgd]
  have h0 : (lone (b.atR a (.inRegion ops (0 :: List.range' 1 (ops.size - 1)) :: k)) cs w).fenced P F := fenced_oper hF hroom ho hab
  have hg := stepGR_op (P := P) (b := b) (k := k) (cs := cs) (w := w) (rest := List.range' 1 (ops.size - 1)) ho hw
  rw [hro, Oper.semAt_none] at hg
  have hfin : ∀ v, (b.atR a (.inRegion ops (0 :: List.range' 1 (ops.size - 1)) :: k)).finish v = b.atR (a.put o.dst v) (.inRegion ops (List.range' 1 (ops.size - 1)) :: k) := by
    intro v; rw [Frame.finish_atR, ho]; rfl
  have hk : (b.atR a (.inRegion ops (0 :: List.range' 1 (ops.size - 1)) :: k)).kind = .deferred := hb
  have htr := tryRecover_deferred hk cs
  refine ⟨e, a', cs, w', rfl, hq, .of_steps (.one (fenced_calm hF hroom rfl) stepR_region) ?_⟩
  rw [hrange]
  refine .of_steps (.one h0 (step_lone_go ?_)) harr
  rw [hg, ← hfin]
  simp only [Frame.atR, hro] at htr ⊢
  simp [stepG.apply, hrun, htr, hrec]
theorem recRun_right {D : Doer} (hD : D.Right G P) {nt id : Nat} {ops : Array Oper} {e e2 : EM} {tr tr2 : T Value} (h : recRun D G P nt ops e tr = some (tr2, e2)) : SDCode G P nt (.region id ops false) (tmG tr) e.mem .normal (tmG tr2) e2.mem := by
 unfold recRun at h
 split at h
 ·rename_i o l hops
  split at h
  ·rename_i hg
   cases hrec : isRec o with
   | false => rw [hrec] at h; cases h
   | true =>
    rw [hrec] at h
    simp only [cond_true] at h
    split at h
    ·rename_i tr1 hp
     split at h
     ·rename_i rs tr2' e2' hrun
      cases h
      have hdrop : ops.toList.drop 1 = l := by rw [hops]; rfl
      have ho : ops[0]? = some o := by rw [← Array.getElem?_toList, hops]; rfl
      have hl : ops.size - 1 = l.length := by rw [← Array.length_toList, hops]; simp
      refine ⟨(regRun_text (nt := nt) (rc := none) hD (ops := ops) l 1 tr1 e rs tr2 e2 hdrop hrun).1, fun μ w a cs hs hG hf ht hd hr Q hQ => ?_⟩
      have hrun' := isRec_run (P := P) hrec a w
      refine wpSIn_recFirst rfl ho hg hrun' (fun _ _ => trivial) hr ?_
      rw [hl]
      refine (regRun_text (nt := nt) (rc := none) hD (ops := ops) l 1 tr1 e rs tr2 e2 hdrop hrun).2 μ w _ hs hG hf (putDst_rel hp ht (.flat _ rfl)) _ fun a' w' μ' he hst htr => hQ a' w' μ' ?_ hst htr
      rw [he]
      cases o.dst <;> exact hd
     ·cases h
    ·cases h
  ·cases h
 ·cases h
theorem doD_right {D : Doer} (hD : D.Right G P) {code : Option Nat → Nat → Code → T Value → List DItem → EM → Out} (h : CodeRight G P code) {nt : Nat} : ∀ (k : Nat) (c : Code) (tr tr' : T Value) (e e' : EM) (ex : Exit), doD D G P code nt k c tr e = some (ex, tr', e') → SDCode G P nt c (tmG tr) e.mem ex (tmG tr') e'.mem
 | 0, _, _, _, _, _, _, hk => by cases hk
 | k + 1, c, tr, tr', e, e', ex, hk => by
  have base : ∀ c : Code, (match code none nt c tr [] e with
   | some (ex, tr', [], e') => some (ex, tr', e')
   | _ => none) = some (ex, tr', e') → SDCode G P nt c (tmG tr) e.mem ex (tmG tr') e'.mem := fun c hc => by
   split at hc
   ·rename_i hcode; cases hc; exact SDCode.of (h _ _ _ _ _ _ _ _ _ _ hcode)
   ·cases hc
  simp only [doD] at hk
  split at hk
  ·rename_i x y
   split at hk
   ·rename_i tr1 e1 hx
    exact (doD_right hD h k x tr tr1 e e1 .normal hx).seq (doD_right hD h k y tr1 tr' e1 e' ex hk)
   ·rename_i hne
    refine (doD_right hD h k x tr tr' e e' ex hk).seq_out fun he => ?_
    subst he
    exact hne _ _ hk
  ·rename_i c x y
   split at hk
   ·rename_i b hb
    refine SDCode.cond hb ?_
    cases b with
    | true => exact doD_right hD h k x tr tr' e e' ex hk
    | false => exact doD_right hD h k y tr tr' e e' ex hk
   ·cases hk
  ·rename_i id ops draw
   cases hd : (!draw && ops.toList.any isRec) with
   | false => rw [hd] at hk; exact base _ hk
   | true =>
    rw [hd] at hk
    simp only [cond_true] at hk
    have hdraw : draw = false := by
     cases draw with
     | false => rfl
     | true => simp at hd
    subst hdraw
    split at hk
    ·rename_i tr1 e1 hr
     cases hk
     exact recRun_right hD hr
    ·cases hk
  ·exact base _ hk
theorem doDef_right {D : Doer} (hD : D.Right G P) {code : Option Nat → Nat → Code → T Value → List DItem → EM → Out} (h : CodeRight G P code) {f : FuncId} {args : Array Value} {e e' : EM} (hc : doDef D G P code f args e = some e') : plainFn P f = true ∧ SDCall G P f args e.mem e'.mem := by
 unfold doDef at hc
 try simp only [fT_eq] at hc
 split at hc
 ·rename_i fn hf
  split at hc
  ·rename_i c hb
   cases hp : plainFn P f with
   | false => rw [hp] at hc; cases hc
   | true =>
    rw [hp] at hc
    simp only [cond_true] at hc
    rw [force_eq] at hc
    split at hc
    ·rename_i ex tr' e1 hcode
     cases hex : exOk ex with
     | false => rw [hex] at hc; cases hc
     | true =>
      rw [hex] at hc
      simp only [cond_true] at hc
      split at hc
      ·rename_i vs hres
       cases hc
       have hs := doD_right hD h 100 c _ tr' e e' ex hcode
       rw [argTree_get] at hs
       refine ⟨rfl, hs.1, fun μ w cargs hsim hG hf' ha => callsDIn_of_wpSIn hf hb trivial fun c₀ cs hu => ?_⟩
       have hz : cargs.size = args.size := ha.1.symm
       refine hs.2 μ w { tmps := cargs ++ Array.replicate (fn.ntmps - cargs.size) undef, defers := [] } (c₀ :: cs) hsim hG hf' ⟨by simp [hz], fun t => ?_⟩ rfl (by simp [recoverD, hu]) _ fun a' w' μ' hd hst htr => ?_
       ·have e0 : args.toList.getD t undef = args.getD t undef := by simp [List.getD_eq_getElem?_getD]
        show VRel μ (args.toList.getD t undef) _
        rw [e0]
        simp only [Array.getD_eq_getD_getElem?, Array.getElem?_append, Array.getElem?_replicate]
        rcases Nat.lt_or_ge t args.size with h1 | h1
        ·have h2 : t < cargs.size := by rw [← ha.1]; exact h1
         simp only [h1, h2, if_true, getElem?_pos, Option.getD_some]
         exact ha.2 t _ _ (by simp [h1]) (by simp [h2])
        ·have h2 : ¬ t < cargs.size := by rw [← ha.1]; omega
         simp only [h2, if_false]
         rw [Array.getElem?_eq_none (by omega)]
         split <;> exact VRel.undef μ
       ·obtain ⟨vc, hrun, hv⟩ := (sres (fn := fn) (nt := args.size + (fn.ntmps - args.size)) hres) μ' w' a'.tmps hst.sim htr
        have hc0 : c₀ :: cs = { c₀ with mode := .returning } :: cs := by rw [← hu]
        have hpost : bodyPostS P fn c₀ cs (fun e0 u' w'' => ∃ v μ'', e0 = .returned v ∧ u' = .returning ∧ Stp G e.mem μ w e'.mem μ'' w'') .ret a' (c₀ :: cs) w' := ⟨hd, .returning, hc0, vc, hrun, vc, μ', rfl, rfl, hst⟩
        cases ex <;> first | exact hpost | (simp [exOk] at hex; done)
      ·cases hc
    ·cases hc
  ·cases hc
 ·cases hc
theorem doDP_right {D : Doer} (hD : D.Right G P) {code : Option Nat → Nat → Code → T Value → List DItem → EM → Out} (h : CodeRight G P code) {nt : Nat} {v : Value} (hv : closedV 3 v = true) : ∀ (k : Nat) (c : Code) (tr tr' : T Value) (e e' : EM) (ex : Exit), doDP D G P code nt v k c tr e = some (ex, tr', e') → SDCodeP G P nt c (tmG tr) v e.mem ex (tmG tr') e'.mem
 | 0, _, _, _, _, _, _, hk => by simp only [doDP] at hk; cases hk
 | k + 1, c, tr, tr', e, e', ex, hk => by
  simp only [doDP] at hk
  split at hk
  ·rename_i x y
   split at hk
   ·rename_i tr1 e1 hx
    exact (doDP_right hD h hv k x tr tr1 e e1 .normal hx).seq (doD_right hD h k y tr1 tr' e1 e' ex hk)
   ·rename_i r hne hx
    cases hk
    refine (doDP_right hD h hv k x tr tr' e e' ex hx).seq_out fun he => ?_
    subst he
    exact hne _ _ rfl
   ·split at hk
    ·rename_i tr1 e1 hx
     exact SDCodeP.later (h _ _ _ _ _ _ _ _ _ _ hx) (doDP_right hD h hv k y tr1 tr' e1 e' ex hk)
    ·cases hk
  ·rename_i c x y
   split at hk
   ·rename_i b hb
    refine SDCodeP.cond hb ?_
    cases b with
    | true => exact doDP_right hD h hv k x tr tr' e e' ex hk
    | false => exact doDP_right hD h hv k y tr tr' e e' ex hk
   ·cases hk
  ·rename_i id ops draw
   cases hd : (!draw && ops.toList.any isRec) with
   | false => rw [hd] at hk; cases hk
   | true =>
    rw [hd] at hk
    simp only [cond_true] at hk
    have hdraw : draw = false := by
     cases draw with
     | false => rfl
     | true => simp at hd
    subst hdraw
    split at hk
    ·rename_i tr1 e1 hr
     cases hk
     exact recRunP_right hD hv hr
    ·cases hk
  ·cases hk
theorem doDefP_right {D : Doer} (hD : D.Right G P) {code : Option Nat → Nat → Code → T Value → List DItem → EM → Out} (h : CodeRight G P code) {v : Value} (hv : closedV 3 v = true) {f : FuncId} {args : Array Value} {e e' : EM} (hc : doDefP D G P code v f args e = some e') : plainFn P f = true ∧ SDCallP G P f args v e.mem e'.mem := by
 unfold doDefP at hc
 try simp only [fT_eq] at hc
 split at hc
 ·rename_i fn hf
  split at hc
  ·rename_i c hb
   cases hp : plainFn P f with
   | false => rw [hp] at hc; cases hc
   | true =>
    rw [hp] at hc
    simp only [cond_true] at hc
    rw [force_eq] at hc
    split at hc
    ·rename_i ex tr' e1 hcode
     cases hex : exOk ex with
     | false => rw [hex] at hc; cases hc
     | true =>
      rw [hex] at hc
      simp only [cond_true] at hc
      split at hc
      ·rename_i vs hres
       cases hc
       have hs := doDP_right hD h hv 100 c _ tr' e e' ex hcode
       rw [argTree_get] at hs
       refine ⟨rfl, hs.1, fun μ w cargs hsim hG hf' ha => callsDIn_of_wpSIn hf hb trivial fun c₀ cs hu => ?_⟩
       have e0 : (fun t => args.toList.getD t undef) = fun t => args.getD t undef := by
        funext t
        simp [List.getD_eq_getElem?_getD]
       rw [e0] at hs
       refine hs.2 μ w { tmps := cargs ++ Array.replicate (fn.ntmps - cargs.size) undef, defers := [] } (c₀ :: cs) ({ c₀ with mode := .panicking [{ v := v, recovered := true }] } :: cs) hsim hG hf' (args_rel ha) rfl (by simp [recoverD, hu, panC]) (by simp [recoverD]) _ fun a' w' μ' hd hst htr => ?_
       obtain ⟨vc, hrun, hvr⟩ := (sres (fn := fn) (nt := args.size + (fn.ntmps - args.size)) hres) μ' w' a'.tmps hst.sim htr
       have hpost : bodyPostS P fn c₀ cs (fun e0 u' w'' => ∃ r μ'', e0 = .returned r ∧ u' = .panicking [{ v := v, recovered := true }] ∧ Stp G e.mem μ w e'.mem μ'' w'') .ret a' ({ c₀ with mode := .panicking [{ v := v, recovered := true }] } :: cs) w' := ⟨hd, _, rfl, vc, hrun, vc, μ', rfl, rfl, hst⟩
       cases ex <;> first | exact hpost | (simp [exOk] at hex; done)
      ·cases hc
    ·cases hc
  ·cases hc
 ·cases hc
theorem shutPE_right {v : Value} {dd ddp : FuncId → Array Value → EM → Option EM} (hd : ∀ f args e e', dd f args e = some e' → plainFn P f = true ∧ SDCall G P f args e.mem e'.mem) (hdp : ∀ f args e e', ddp f args e = some e' → plainFn P f = true ∧ SDCallP G P f args v e.mem e'.mem) : ∀ (dm : List DItem) (e e2 : EM), shutPE G dd ddp dm e = some e2 → ShutP G P v dm e.mem e2.mem
 | [], e, e2, h => by cases h
 | .mark b :: bs, e, e2, h => by
  simp only [shutPE] at h
  cases hb : Nat.ble G b with
  | false => rw [hb] at h; cases h
  | true =>
   rw [hb] at h
   simp only [cond_true] at h
   split at h
   ·rename_i hg
    have h1 := shutPE_right hd hdp bs _ e2 h
    rw [EM.mem_put] at h1
    exact .mark hg (by simpa using hb) h1
   ·cases h
 | .call f as cs :: bs, e, e2, h => by
  simp only [shutPE] at h
  split at h
  ·rename_i e1 hc
   obtain ⟨h1, h2⟩ := hdp f _ e e1 hc
   exact .call (fun as cs w => invoke_func h1 cs as w) h2 (shutE_right hd bs e1 e2 h)
  ·cases h
theorem code_args {code : Option Nat → Nat → Code → T Value → List DItem → EM → Out} (h : CodeRight G P code) {args : Array Value} {nt : Nat} {c : Code} {e e' : EM} {ex : Exit} {tr' : T Value} {dm' : List DItem} (hc : code none nt c (argTree args.toList) [] e = some (ex, tr', dm', e')) :
    SCode G P none nt c (fun t => args.getD t undef) [] e.mem ex (tmG tr') dm' e'.mem := by
  have hs := h none _ c _ [] e ex tr' dm' e' hc
  rw [argTree_get] at hs
  have : (fun t => args.toList.getD t undef) = fun t => args.getD t undef := by
    funext t
    simp [List.getD_eq_getElem?_getD]
  rw [← this]
  exact hs
theorem doPan_right {code : Option Nat → Nat → Code → T Value → List DItem → EM → Out} (h : CodeRight G P code) : PanRight (doPan G P code) G P := fun f args e v e' hc => by
 unfold doPan at hc
 try simp only [fT_eq] at hc
 split at hc
 ·rename_i fn hf
  split at hc
  ·rename_i c hb
   split at hc
   ·rename_i ch tr' e1 hcode
    rw [force_eq] at hcode
    split at hc
    ·rename_i v' hv
     cases hc
     obtain ⟨rfl, _⟩ := panV_eq hv
     exact SCallP.of_code hf hb (code_args h hcode)
    ·cases hc
   ·cases hc
  ·cases hc
 ·cases hc
theorem doCall0_right {D : Doer} (hD : D.Right G P) {code : Option Nat → Nat → Code → T Value → List DItem → EM → Out} (h : CodeRight G P code) {f : FuncId} {args : Array Value} {e e2 : EM} {v : Value} (hc : doCall0 D G P code f args e = some (v, e2)) : SCall G P f args e.mem v e2.mem := by
 unfold doCall0 at hc
 try simp only [fT_eq] at hc
 split at hc
 ·rename_i fn hf
  split at hc
  ·rename_i c hb
   split at hc
   ·rename_i ex tr' dm' e' hcode
    rw [force_eq] at hcode
    cases hk : exOk ex with
    | false =>
     rw [hk] at hc
     simp only [cond_false] at hc
     unfold doRec at hc
     split at hc
     ·rename_i ch
      split at hc
      ·rename_i v0 hv0
       obtain ⟨rfl, hcl⟩ := panV_eq hv0
       split at hc
       ·rename_i e2' hsh
        split at hc
        ·rename_i vs hres
         cases hc
         exact SCall.of_recovered hf hb (code_args h hcode) (shutPE_right (fun f args e e' hd => doDef_right hD h hd) (fun f args e e' hd => doDefP_right hD h hcl hd) dm' e' e2 hsh) (sres hres)
        ·cases hc
       ·cases hc
      ·cases hc
     ·cases hc
    | true =>
     rw [hk] at hc
     simp only [cond_true] at hc
     split at hc
     ·rename_i e2' hsh
      split at hc
      ·rename_i vs hres
       cases hc
       have hex : ex = .normal ∨ ex = .ret := by
        cases ex <;> simp [exOk] at hk <;> simp
       have hs := h none _ c _ [] e ex tr' dm' e' hcode
       rw [argTree_get] at hs
       have g1 := shutE_right (fun f args e e' hd => doDef_right hD h hd) dm' e' e2 hsh
       have hs' : SCode G P none (args.size + (fn.ntmps - args.size)) c (fun t => args.getD t undef) [] e.mem ex (tmG tr') dm' e'.mem := by
        have : (fun t => args.toList.getD t undef) = fun t => args.getD t undef := by
         funext t
         simp [List.getD_eq_getElem?_getD]
        rw [← this]
        exact hs
       exact SCall.of_code hf hb hs' hex g1 (sres hres)
      ·cases hc
     ·cases hc
   ·cases hc
  ·cases hc
 ·cases hc
theorem doCall_right {code : Option Nat → Nat → Code → T Value → List DItem → EM → Out} (h : CodeRight G P code) {f : FuncId} {args : Array Value} {e e2 : EM} {v : Value} (hc : doCall G P code f args e = some (v, e2)) : SCall G P f args e.mem v e2.mem := doCall0_right noDoer_right h hc
theorem doYield_right {code : Option Nat → Nat → Code → T Value → List DItem → EM → Out} (h : CodeRight G P code) {o : Oper} {c : Call} {x : Operand} {ρ : Operand → Value} {l : Nat} {e e' : EM} {b : Bool} (ho : o.op = .call c) (hc : c.callee = .value x) (hx : ρ x = .func (.yield l) #[] #[])
    (hy : doYield G code l (c.args.toList.map ρ) e = some (b, e')) : EOp G P o ρ e.mem (.bool b) e'.mem := by
  unfold doYield at hy
  split at hy
  · rename_i st0 pe0 nt tr ps as bo df hl
    cases hk : (Nat.ble G l && Nat.beq (c.args.toList.map ρ).length ps.size && ps.toList.all fun p => Nat.blt p nt) with
    | false => rw [hk] at hy; cases hy
    | true =>
      rw [hk] at hy
      simp only [cond_true] at hy
      simp only [Bool.and_eq_true] at hk
      obtain ⟨⟨k1, k2⟩, k3⟩ := hk
      split at hy
      · rename_i tr2 dm1 e1 h1
        split at hy
        · rename_i pe1 nt1 tr1 ps1 as1 bo1 df1 hl1
          split at hy
          · rename_i ex tr3 dm3 e3 h3
            split at hy
            · rename_i b' sn pn st3 pe3 nt3 tr4 ps3 as3 bo3 df3 hout hl3
              cases hy
              have s1 := h _ _ _ _ _ _ _ _ _ _ h1
              have s3 := h _ _ _ _ _ _ _ _ _ _ h3
              rw [setPsE_tm] at s1
              rw [EM.mem_put] at s3 ⊢
              exact eop_yield ho hc hx (by simpa using k1) (loopAt_get hl) (by have : (c.args.toList.map ρ).length = ps.size := by simpa using k2
                                                                               simpa using this) (fun p hp => by have := List.all_eq_true.1 k3 p hp; simpa [Nat.blt_eq] using this) s1 (loopAt_get hl1) s3 (loopAt_get hl3) hout
            · cases hy
          · cases hy
        · cases hy
      · cases hy
  · cases hy
theorem evD_right {K : Kn} (hK : K.Right G P) {p : EvP} (h : CodeRight G P p.code) (hD : p.doer.Right G P) : (evD G P K p).Right G P :=
 ⟨fun _ _ _ _ _ hc => callK_right hK (fun _ _ _ _ _ hc => doCall0_right hD h hc) hc, fun _ _ _ _ _ _ _ _ ho hc hx hy => doYield_right h ho hc hx hy, hK.2.1⟩
theorem loopE_right {body : T Value → List DItem → EM → Out} {rd : Option Nat} {nt : Nat} {c : Code} (h : ∀ tr dm e ex tr' dm' e', body tr dm e = some (ex, tr', dm', e') → SCode G P rd nt c (tmG tr) dm e.mem ex (tmG tr') dm' e'.mem) :
    ∀ (k : Nat) tr dm e ex tr' dm' e', loopE body k tr dm e = some (ex, tr', dm', e') → SRounds G P rd nt k c (tmG tr) dm e.mem ex (tmG tr') dm' e'.mem := by
  intro k
  induction k with
  | zero => intro tr dm e ex tr' dm' e' hl; cases hl
  | succ k ih =>
    intro tr dm e ex tr' dm' e' hl
    rw [loopE_succ] at hl
    unfold outThen at hl
    split at hl
    · rename_i tr1 dm1 e1 hb
      exact SRounds.more (h _ _ _ _ _ _ _ hb) (ih _ _ _ _ _ _ _ hl)
    · rename_i hne
      refine SRounds.last k (h _ _ _ _ _ _ _ hl) fun e => ?_
      subst e
      exact hne _ _ _ hl
theorem doRange_right {code : Option Nat → Nat → Code → T Value → List DItem → EM → Out} (h : CodeRight G P code) {rd : Option Nat} {nt : Nat} {g : Operand} {ps : Array Tmp} {as bo : Code} {tr tr' : T Value} {dm dm' : List DItem} {e e' : EM} {ex : Exit} {D : Doer} (hD : D.Right G P) (hr : doRange G P (doCall0 D G P code) rd nt g ps as bo tr dm e = some (ex, tr', dm', e')) :
    SCode G P rd nt (.rangeFunc g ps as bo) (tmG tr) dm e.mem ex (tmG tr') dm' e'.mem := by
  unfold doRange at hr
  split at hr
  · cases hr
  · cases hr
  · rename_i hgc hgl
    split at hr
    · rename_i f fa ca hg
      cases hp : plainFn P f with
      | false => rw [hp] at hr; cases hr
      | true =>
        rw [hp] at hr
        simp only [cond_true] at hr
        split at hr
        · split at hr
          · rename_i v e2 hcall
            split at hr
            · rename_i st pe nt' tr1 ps' as' bo' df' hl
              split at hr
              · rename_i ex' hst hex
                cases hr
                rw [EM.mem_put]
                have hc := doCall0_right hD h hcall
                refine SCode.range (v := v) hg (fun i e => hgl i e) (fun v e => hgc v e) hp ?_ hc (loopAt_get hl) hst hex
                rw [EM.mem_push, EM.mem_push]
                rfl
              · cases hr
            · cases hr
          · cases hr
        · rename_i l0
          split at hr
          · rename_i st0 pe0 nt0 tr0 ps0 as0 bo0 df0 hl0
            split at hr
            · rename_i v e2 hcall
              split at hr
              · rename_i st pe nt' tr1 ps' as' bo' df' hl
                split at hr
                · rename_i ex' hst hex
                  cases hr
                  rw [EM.mem_put]
                  have hc := doCall0_right hD h hcall
                  refine SCode.range_in (v := v) (loopAt_get hl0) hg (fun i e => hgl i e) (fun v e => hgc v e) hp ?_ hc (loopAt_get hl) hst hex
                  rw [EM.mem_push]
                  rfl
                · cases hr
              · cases hr
            · cases hr
          · cases hr
    · cases hr
theorem doRegion_right {D : Doer} (hD : D.Right G P) {rd : Option Nat} {nt id : Nat} {ops : Array Oper} {draw : Bool} {tr tr' : T Value} {dm dm' : List DItem} {e e' : EM} {ex : Exit} (hr : doRegion D G P nt ops draw tr dm e = some (ex, tr', dm', e')) :
    SCode G P rd nt (.region id ops draw) (tmG tr) dm e.mem ex (tmG tr') dm' e'.mem := by
  unfold doRegion at hr
  split at hr
  · rename_i rs tr2 e2 hrun
    cases draw with
    | false =>
      cases hr
      obtain ⟨h1, h2⟩ := regRun_text (nt := nt) (rc := none) hD (ops := ops) ops.toList 0 tr e rs tr' e' rfl hrun
      refine ⟨h1, fun μ w a rc hs hG hf ht hd _ Q hQ => wpIn_region ?_⟩
      have h3 := (regRun_text (nt := nt) (rc := rc) hD (ops := ops) ops.toList 0 tr e rs tr' e' rfl hrun).2 μ w a hs hG hf ht Q fun a' w' μ' he hst htr => hQ a' w' μ' (by rw [he]; exact hd.ext hst.extE) hst htr
      rw [List.range_eq_range']
      simpa using h3
    | true =>
      simp only [cond_true] at hr
      rw [force_eq] at hr
      cases hk : (P.follows .mixedOrders && Nat.ble G e.next && chkText G nt ops (masks ops.toList []) && chkEff (masks ops.toList []) (effMask rs 0) ops.size && chkDyn (masks ops.toList []) (effMask rs 0) ops.size (stagesE rs 0 ops.size e2) rs 0) with
      | false => rw [hk] at hr; cases hr
      | true =>
        rw [hk] at hr
        cases hr
        simp only [Bool.and_eq_true] at hk
        obtain ⟨⟨⟨⟨k1, k2⟩, k3⟩, k4⟩, k5⟩ := hk
        obtain ⟨hok, m0, mn, tmn⟩ := run_ok hD rfl k3 hrun k4 k5 (by show G ≤ e.next; simpa using k2)
        have := region_drawn (id := id) (dm := dm) (rd := rd) hok k1
        rw [m0, mn, tmn] at this
        exact this
  · cases hr
theorem splitD_eq {ops : Array Oper} {l : List Oper} {o : Oper} (h : splitD ops = some (l, o)) : ops.toList = l ++ [o] := by
 unfold splitD at h
 split at h
 ·rename_i o' l' hr
  split at h
  ·cases h
   have := congrArg List.reverse hr
   simpa using this
  ·cases h
 ·cases h
theorem doDefer_right {D : Doer} (hD : D.Right G P) {nt id : Nat} {ops : Array Oper} {tr tr' : T Value} {dm dm' : List DItem} {e e' : EM} {ex : Exit} {l : List Oper} {o : Oper} (hsp : splitD ops = some (l, o)) (hr : doDefer D G P nt ops tr dm e l o = some (ex, tr', dm', e')) :
    SCode G P none nt (.region id ops false) (tmG tr) dm e.mem ex (tmG tr') dm' e'.mem := by
  have hops := splitD_eq hsp
  unfold doDefer at hr
  split at hr
  · rename_i rs tr2 e2 hrun
    split at hr
    · rename_i it hg hdst hit
      cases hk : opndOk G o with
      | false => rw [hk] at hr; cases hr
      | true =>
        rw [hk] at hr
        cases hr
        have hpre := fun rc => regRun_pre (nt := nt) (rc := rc) hD (ops := ops) l 0 tr e rs tr' e' [o] (by simpa using hops) hrun
        refine ⟨(hpre none).1, fun μ w a rc hs hG hf ht hd hrd Q hQ => wpIn_region ?_⟩
        obtain rfl : rc = none := by cases rc with | none => rfl | some r => exact hrd.elim
        have hsz : ops.size = l.length + 1 := by rw [← Array.length_toList, hops]; simp
        have key := (hpre none).2 μ w a hs hG hf ht Q [l.length] fun a' w' μ' he hst htr => ?_
        · rw [hsz, List.range_succ, List.range_eq_range']
          exact key
        · have hlo : ops[l.length]? = some o := by
            rw [← Array.getElem?_toList, hops]; simp
          have hw : Region.wanted o (yielded ops a'.tmps) = true := by unfold Region.wanted; rw [hg]
          simp only [wpOpsIn, hlo, hw, if_true]
          have hor := orel_of hst.sim htr hk
          unfold deferOf at hit
          split at hit
          · rename_i c ho
            split at hit
            · rename_i x hc
              split at hit
              · rename_i f fa ca hx
                cases hit
                have h1 := hor x (by rw [ho]; simp [Op.operands, Call.operands, hc])
                rw [hx] at h1
                obtain ⟨fa', ca', e1, ha, hca⟩ := h1.func_inv
                have hargs := ARel.map (μ := μ') (ρ := oper2 (tmG tr')) (ρc := a'.eval) (xs := c.args) fun y hy => hor y (by rw [ho]; simp only [Op.operands, Call.operands, hc]; simp [hy])
                have hrun' : (execOp a'.eval o).run P w' = .ok (.defer { target := .fn (.func f) ca', args := fa' ++ c.args.map a'.eval }) w' := by
                  unfold execOp
                  simp only [ho, Sem.run_bind, resolve_value hc e1, Result.andThen_ok, Sem.run_pure]
                refine ⟨fun _ _ => trivial, ?_⟩
                have hsem : (o.semAt (FW none).round a'.eval).run P w' = .ok (.defer { target := .fn (.func f) ca', args := fa' ++ c.args.map a'.eval }) w' := hrun'
                rw [hsem, Oper.uponIn_defer, hdst]
                exact hQ _ w' μ' ⟨⟨_, _, rfl, ha.append hargs, hca⟩, by rw [he]; exact hd.ext hst.extE⟩ hst htr
              · cases hit
            · cases hit
          · cases hit
    · cases hr
  · cases hr
theorem doRegionD_right {D : Doer} (hD : D.Right G P) {rd : Option Nat} {nt id : Nat} {ops : Array Oper} {draw : Bool} {tr tr' : T Value} {dm dm' : List DItem} {e e' : EM} {ex : Exit} (hr : doRegionD D G P rd nt ops draw tr dm e = some (ex, tr', dm', e')) :
    SCode G P rd nt (.region id ops draw) (tmG tr) dm e.mem ex (tmG tr') dm' e'.mem := by
  unfold doRegionD at hr
  split at hr
  · exact doRegion_right hD hr
  · rename_i l o hsp
    cases draw with
    | true => cases hr
    | false =>
      simp only [cond_false] at hr
      split at hr
      · exact doDefer_right hD hsp hr
      · cases hr
theorem evP_right (G : Nat) (P : Program) {K : Kn} (hK : K.Right G P) : ∀ n, CodeRight G P (evP G P K n).code ∧ (evP G P K n).doer.Right G P := by
 intro n
 induction n with
 | zero => exact ⟨fun rd nt c tr dm e ex tr' dm' e' h => (by cases h), noDoer_right⟩
 | succ n ih0 =>
  obtain ⟨ih, ihD⟩ := ih0
  refine ⟨fun rd nt c tr dm e ex tr' dm' e' h => ?_, evD_right hK ih ihD⟩
  replace h : evStep G P K n (evP G P K n) rd nt c tr dm e = some (ex, tr', dm', e') := h
  cases c with
  | skip => cases h; exact SCode.skip
  | label l => cases h; exact SCode.label l
  | exit id => cases h; exact SCode.exit id
  | ret => cases h; exact SCode.ret
  | seq x y =>
   simp only [evStep] at h
   unfold outThen at h
   split at h
   ·rename_i tr1 dm1 e1 hx
    exact SCode.seq (ih _ _ _ _ _ _ _ _ _ _ hx) (ih _ _ _ _ _ _ _ _ _ _ h)
   ·rename_i hne
    refine SCode.seq_out (ih _ _ _ _ _ _ _ _ _ _ h) fun e => ?_
    subst e
    exact hne _ _ _ h
  | cond c x y =>
   simp only [evStep] at h
   unfold outCond at h
   split at h
   ·rename_i b hb
    refine SCode.cond hb ?_
    cases b with
    | true => exact ih _ _ _ _ _ _ _ _ _ _ h
    | false => exact ih _ _ _ _ _ _ _ _ _ _ h
   ·cases h
  | block id c =>
   simp only [evStep] at h
   unfold outBlk at h
   split at h
   ·rename_i ex' r hb
    cases h
    exact SCode.block (ih _ _ _ _ _ _ _ _ _ _ hb)
   ·cases h
  | loop c =>
   simp only [evStep] at h
   exact (loopE_right (fun tr dm e ex tr' dm' e' hb => ih _ _ _ _ _ _ _ _ _ _ hb) n _ _ _ _ _ _ _ h).loop
  | region id ops draw =>
   simp only [evStep] at h
   unfold outReg at h
   split at h
   ·rename_i r hr
    cases h
    exact doRegionD_right (evD_right hK ih ihD) hr
   ·unfold panRegion at h
    cases draw with
    | true => cases h
    | false =>
     simp only [cond_false] at h
     split at h
     ·rename_i v tr2 e2 hp
      cases h
      exact panRun_code (evD_right hK ih ihD) (doPan_right ih) hp
     ·cases h
  | rangeFunc g ps as bo =>
   simp only [evStep] at h
   exact doRange_right ih ihD h
  | scope c =>
   simp only [evStep] at h
   unfold outScp at h
   split at h
   ·rename_i ex' r hb
    cases hg : notGoto ex' with
    | false => rw [hg] at h; cases h
    | true =>
     rw [hg] at h
     cases h
     exact SCode.scope (ih _ _ _ _ _ _ _ _ _ _ hb) hg
   ·cases h
  | goto l => cases h
  | refuse w => cases h
theorem ev_right (G : Nat) (P : Program) {K : Kn} (hK : K.Right G P) (n : Nat) : CodeRight G P (ev G P K n) := (evP_right G P hK n).1
end Go.Proofs.YtjcmdifpkafdkaaDoor
namespace Go.Proofs.YtjcmdifpkafdkaaDoor
open Go.RowKit
variable {P : Program}

noncomputable def rowsAt : List (Nat × List Value) → T EBlk
 | [] => .nil
 | (g, cs) :: l => (rowsAt l).put (some (.b (.row ⟨cs, 0, true⟩))) g
noncomputable def startE (G : Nat) (l : List (Nat × List Value)) : EM := ⟨rowsAt l, G⟩
theorem rowsAt_get : ∀ (l : List (Nat × List Value)) (b : Nat) (x : EBlk), (rowsAt l).get b = some x → ∃ cs, (b, cs) ∈ l ∧ x = .b (.row ⟨cs, 0, true⟩)
 | [], b, x, h => by cases h
 | (g, cs) :: l, b, x, h => by
  simp only [rowsAt] at h
  rw [T.get_put] at h
  split at h
  ·rename_i hb; cases h; exact ⟨cs, by simp [hb], rfl⟩
  ·obtain ⟨cs', h1, h2⟩ := rowsAt_get l b x h
   exact ⟨cs', by simp [h1], h2⟩
def RowsLie (w : World) (l : List (Nat × List Value)) : Prop := ∀ g cs, (g, cs) ∈ l → (∀ x ∈ cs, flatV x = true) ∧ cs ≠ [] ∧ ∀ (i : Nat) v, cs[i]? = some v → w.cell? ⟨g, i, none⟩ = some v
theorem RowsLie.later {w w' : World} {l : List (Nat × List Value)} (h : RowsLie w l) (hb : Below w.heap.size w w') : RowsLie w' l := fun g cs hm => by
 obtain ⟨h1, h2, h3⟩ := h g cs hm
 exact ⟨h1, h2, fun i v hv => by rw [hb.cell (p := ⟨g, i, none⟩) (World.block_lt_of_cell? _ _ (h3 i v hv))]; exact h3 i v hv⟩
noncomputable def startMu (G : Nat) (l : List (Nat × List Value)) : Mu := ⟨fun b => if b < G then some ⟨b, 0, (match (rowsAt l).get b with | some (.b (.row r)) => r.cs.length | _ => 0), 0, 0⟩ else none, fun _ => False⟩
theorem startMu_at (G : Nat) (l : List (Nat × List Value)) (b : Nat) : startMu G l b = if b < G then some ⟨b, 0, (match (rowsAt l).get b with | some (.b (.row r)) => r.cs.length | _ => 0), 0, 0⟩ else none := rfl
theorem start_sim {G : Nat} {l : List (Nat × List Value)} {w : World} (hl : RowsLie w l) (_hG : ∀ g cs, (g, cs) ∈ l → g < G) : Sim G (startMu G l) (startE G l).mem w := by
 have get : ∀ b x, (startE G l).mem.get b = some x → b < G ∧ ∃ cs, (b, cs) ∈ l ∧ x = .row ⟨cs, 0, true⟩ ∧ (rowsAt l).get b = some (.b (.row ⟨cs, 0, true⟩)) := fun b x h => by
  have hlt : b < G := Mem.lt h
  unfold Mem.get EM.mem startE at h
  simp only [hlt, if_true] at h
  split at h
  ·rename_i y hy
   cases h
   obtain ⟨cs, h1, h2⟩ := rowsAt_get l b y hy
   exact ⟨hlt, cs, h1, by rw [h2]; rfl, by rw [hy, h2]⟩
  ·cases h
 refine ⟨fun g hg => ⟨_, by rw [startMu_at, if_pos hg], fun _ => ⟨rfl, rfl⟩⟩, fun b x bi hx hm => ?_, fun b b' x x' bi bi' hx hx' hm hm' e => ?_, fun b x bi hGb hx _ => ?_, fun _ h => h, fun _ _ _ _ _ h => h⟩
 ·obtain ⟨hlt, cs, hmem, rfl, hrow⟩ := get b x hx
  rw [startMu_at] at hm
  rw [if_pos hlt, hrow] at hm
  cases hm
  obtain ⟨h1, h2, h3⟩ := hl b cs hmem
  have h0 : ∃ v, cs[0]? = some v := by cases cs with | nil => exact absurd rfl h2 | cons v _ => exact ⟨v, rfl⟩
  obtain ⟨v0, hv0⟩ := h0
  have hc := h3 0 v0 hv0
  unfold World.cell? at hc
  split at hc
  ·rename_i cc t fz hh
   refine ⟨rfl, cc, fz, t, hh, fun h => absurd h (by simp), fun i v hv => ⟨v, ?_, .flat v (h1 v (List.mem_of_getElem? hv))⟩⟩
   have := h3 i v hv
   unfold World.cell? at this
   rw [hh] at this
   simpa using this
  ·cases hc
 ·obtain ⟨hlt, _⟩ := get b x hx
  obtain ⟨hlt', _⟩ := get b' x' hx'
  rw [startMu_at] at hm hm'
  rw [if_pos hlt] at hm
  rw [if_pos hlt'] at hm'
  cases hm
  cases hm'
  exact fun _ => e
 ·obtain ⟨hlt, _⟩ := get b x hx
  omega
theorem closed_run {G n f : Nat} {K : Kn} (hK : K.Right G P) {l : List (Nat × List Value)} {args : List Value} {v : Value} (h : (match doCall G P (ev G P K n) f args.toArray (startE G l) with | some (u, _) => eqV 3 u v | _ => false) = true) (ha : args.all (closedV 3) = true) (hv : closedV 3 v = true) {w : World} (hl : RowsLie w l) (hG : ∀ g cs, (g, cs) ∈ l → g < G) :
    Calls P f args.toArray w fun e w' => e = .returned v ∧ Below w.heap.size w w' := by
  split at h
  · rename_i u e' hc
    have hu := eqV_eq 3 _ _ h
    subst hu
    have hs := doCall_right (ev_right G P hK n) hc
    have hsim := start_sim hl hG
    refine (hs.2 (startMu G l) w args.toArray hsim (Nat.le_refl _) (fun b h1 _ => ?_) ⟨rfl, fun i x x' h1 h2 => ?_⟩).mono ?_
    · have h1 : G ≤ b := h1
      rw [startMu_at]
      rw [if_neg (by omega)]
    · rw [h1] at h2
      cases h2
      exact closedV_rel _ 3 x (List.all_eq_true.1 ha x (List.mem_of_getElem? (by simpa using h1)))
    · rintro e w' ⟨vc, μ', rfl, hst, hr⟩
      refine ⟨by rw [closedV_eq 3 _ _ hv hr], hst.os, hst.tape, hst.output, hst.size, fun B hB => ?_⟩
      refine hst.keep B hB (fun h => h) fun b x bi hGb hx _ => ?_
      have : b < G := Mem.lt hx
      omega
  · cases h
def noK (l : List (Nat × List Value)) : Kn := { calls := [], rows := l, same := [] }
theorem noK_right {G : Nat} {l : List (Nat × List Value)} : (noK l).Right G P := ⟨fun f args v h => (by cases h), fun f h => (by cases h), fun t h => by cases h⟩
theorem rows_lie {G : Nat} {μ : Mu} {σ : Mem} {w : World} {l : List (Nat × List Value)} (hs : Sim G μ σ w) (hG : ∀ g cs, (g, cs) ∈ l → g < G) (h64 : ∀ g cs, (g, cs) ∈ l → g < 64) (hf : ∀ g cs, (g, cs) ∈ l → (∀ x ∈ cs, flatV x = true) ∧ cs ≠ []) (h : RowsAt l σ) : RowsLie w l := fun g cs hm => by
 obtain ⟨h1, h2⟩ := hf g cs hm
 refine ⟨h1, h2, fun i v hv => ?_⟩
 obtain ⟨t, gg, ht⟩ := h g cs hm
 obtain ⟨bi, hb, e12⟩ := hs.glob g (hG g cs hm)
 obtain ⟨e1, e2⟩ := e12 (h64 g cs hm)
 obtain ⟨cc, fz, t', hc, _, hv'⟩ := (hs.blk g _ bi ht hb).lie
 obtain ⟨v', g1, g2⟩ := hv' i v hv
 have := flatV_eq (h1 v (List.mem_of_getElem? hv)) g2
 subst this
 rw [e1] at hc
 rw [e2, Nat.zero_add] at g1
 unfold World.cell?
 simp only [hc]
 exact g1
theorem closed_scall {G G' n f : Nat} {K : Kn} (hK : K.Right G P) {args : List Value} {v : Value} (h : (match doCall G P (ev G P K n) f args.toArray (startE G K.rows) with | some (u, _) => eqV 3 u v | _ => false) = true) (ha : args.all (closedV 3) = true) (hv : closedV 3 v = true) (hG : ∀ g cs, (g, cs) ∈ K.rows → g < G) (hG' : ∀ g cs, (g, cs) ∈ K.rows → g < G') (hf : ∀ g cs, (g, cs) ∈ K.rows → (∀ x ∈ cs, flatV x = true) ∧ cs ≠ []) (σ : Mem) (hr : RowsAt K.rows σ) (h64 : G ≤ 64 := by decide) : SCall G' P f args.toArray σ v σ := by
 refine ⟨Nat.le_refl _, fun μ w cargs hs hGn _ har => ?_⟩
 have hz : cargs = args.toArray := by
  apply Array.ext'
  apply List.ext_getElem?
  intro i
  rcases Nat.lt_or_ge i args.length with hi | hi
  ·have hi' : i < cargs.size := by rw [← har.1]; simpa using hi
   have := har.2 i args[i] cargs[i] (by simp [hi]) (by simp [hi'])
   have e := closedV_eq 3 _ _ (List.all_eq_true.1 ha _ (List.getElem_mem hi)) this
   simp [hi, hi', e]
  ·have hi' : cargs.size ≤ i := by rw [← har.1]; simpa using hi
   rw [List.getElem?_eq_none (by simpa using hi'), List.getElem?_eq_none (by simpa using hi)]
 subst hz
 refine (closed_run hK h ha hv (rows_lie hs hG' (fun g cs hm => Nat.lt_of_lt_of_le (hG g cs hm) h64) hf hr) hG).mono ?_
 rintro e w' ⟨rfl, hb⟩
 have own2 := OwnOk.same (G := G') (σ := σ) (μ := μ) (w := w) (w' := w') (σ' := σ) rfl (Ext.refl μ) rfl hb.size (fun B hB _ => hb.block B hB) fun c z ci hz hc => .inr ⟨c, z, ci, hz, hc, rfl⟩
 refine ⟨v, μ, rfl, ⟨Nat.le_refl _, fun b h1 h2 => absurd h1 (by omega), fun _ _ => rfl, ?_, hb.size, hb.os, hb.tape, hb.output, fun b x bi hb' hx _ => absurd (Mem.lt hx) (by omega), fun _ x _ h => ⟨x, h⟩, hGn, own_id, fun B hB _ _ => hb.block B hB⟩, closedV_rel _ 3 v hv⟩
 exact ⟨hs.glob, fun b x bi hx hm => (hs.blk b x bi hx hm).keep (hb.block _ (hs.blk b x bi hx hm).lt) (Ext.refl _), hs.inj, hs.rw_, own2 hs.abs⟩
noncomputable def Tr.run (t : Tr) (G : Nat) (P : Program) (K : Kn) (n : Nat) : Bool := match doCall0 (evP G P K n).doer G P (ev G P K n) t.f t.args.toArray t.pre with
 | some (u, e') => cond (eqV 3 u t.v) (cond (Nat.beq e'.next t.n1) (allR (fun x => match x.2 with
  | none => true
  | some y => (match e'.mem.get x.1 with | some z => eqB z y | none => false)) t.l1) false) false
 | none => false
end Go.Proofs.YtjcmdifpkafdkaaDoor
namespace Go.Proofs.YtjcmdifpkafdkaaDoor
variable {P : Program} {G : Nat} {nt : Nat}

def putO (ta : Nat → Value) (d : Option Nat) (v : Value) : Nat → Value := match d with | some d => upd ta d v | none => ta
def dstOk (nt : Nat) : Option Nat → Bool
 | some d => Nat.blt d nt
 | none => true
inductive RegR (G : Nat) (P : Program) (nt : Nat) (ops : Array Oper) : List Oper → (Nat → Value) → Mem → List (Rec × Mem) → (Nat → Value) → Mem → Prop
 | nil (ta : Nat → Value) (σ : Mem) : RegR G P nt ops [] ta σ [] ta σ
 | skip {o : Oper} {l : List Oper} {ta : Nat → Value} {σ : Mem} {rs : List (Rec × Mem)} {ta2 : Nat → Value} {σ2 : Mem} (hw : wantedT ops ta o = false) (hd : dstOk nt o.dst = true) (h : RegR G P nt ops l (putO ta o.dst undef) σ rs ta2 σ2) : RegR G P nt ops (o :: l) ta σ ((.skip, σ) :: rs) ta2 σ2
 | op {o : Oper} {l : List Oper} {ta : Nat → Value} {σ σ1 : Mem} {r : Rec} {rs : List (Rec × Mem)} {ta2 : Nat → Value} {σ2 : Mem} (hw : wantedT ops ta o = true) (hk : opndOk G o = true) (hr : r.Right G P o (oper2 ta) σ σ1) (hd : dstOk nt o.dst = true) (h : RegR G P nt ops l (putO ta o.dst (r.value σ)) σ1 rs ta2 σ2) : RegR G P nt ops (o :: l) ta σ ((r, σ) :: rs) ta2 σ2
variable {ops : Array Oper} {bf : List Nat}
theorem RegR.head {l : List Oper} {ta ta2 : Nat → Value} {e e2 : Mem} {rs : List (Rec × Mem)} (h : RegR G P nt ops l ta e rs ta2 e2) : (match rs with | [] => e2 = e | (_, e') :: _ => e' = e) ∧ rs.length = l.length := by
 induction h with
 | nil => exact ⟨rfl, rfl⟩
 | skip _ _ _ ih => exact ⟨rfl, by simp [ih.2]⟩
 | op _ _ _ _ _ ih => exact ⟨rfl, by simp [ih.2]⟩
def mkR (G : Nat) (P : Program) (ops : Array Oper) (ta : Nat → Value) (nt : Nat) (rs : List (Rec × Mem)) (e2 : Mem) : Run G P ops ta nt where
 did := fun j => match rs[j]? with | some (r, _) => r | none => .skip
 mem := fun j => match rs[j]? with | some (_, e) => e | none => e2
 wr := wrOf ops
def effR : List (Rec × Mem) → Nat → Nat
 | [], _ => 0
 | (r, _) :: l, j => (if r.isE then 2 ^ j else 0) ||| effR l (j + 1)
theorem effR_bit : ∀ (l : List (Rec × Mem)) (m j : Nat), (effR l m).testBit j = (decide (m ≤ j) && ((l[j - m]?).map (·.1.isE)).getD false)
 | [], m, j => by simp [effR]
 | (r, e) :: l, m, j => by
  rw [effR, Nat.testBit_or, effR_bit l (m + 1) j]
  rcases Nat.lt_trichotomy j m with h | h | h
  ·have : ¬ m ≤ j := by omega
   have h2 : ¬ m + 1 ≤ j := by omega
   have h3 : m ≠ j := by omega
   simp only [this, h2, decide_false, Bool.false_and, Bool.or_false]
   split
   ·rw [Nat.testBit_two_pow]; simp [h3]
   ·simp
  ·subst h
   simp only [Nat.le_refl, decide_true, Nat.sub_self, Bool.true_and]
   have h2 : ¬ j + 1 ≤ j := by omega
   simp only [h2, decide_false, Bool.false_and, Bool.or_false, List.getElem?_cons_zero, Option.map_some, Option.getD_some]
   cases hr : r.isE
   ·simp
   ·simp []
  ·have h1 : m ≤ j := by omega
   have h2 : m + 1 ≤ j := by omega
   have h3 : m ≠ j := by omega
   simp only [h1, h2, decide_true, Bool.true_and]
   rw [show j - m = (j - (m + 1)) + 1 by omega, List.getElem?_cons_succ]
   split
   ·rw [Nat.testBit_two_pow]; simp [h3]
   ·simp
theorem tmR_succ (h : chkText G nt ops bf = true) {ta : Nat → Value} {rs : List (Rec × Mem)} {e2 : Mem} {j : Nat} {o : Oper} (ho : ops[j]? = some o) :
    (mkR G P ops ta nt rs e2).tm (j + 1) = match o.dst with | some d => upd ((mkR G P ops ta nt rs e2).tm j) d ((mkR G P ops ta nt rs e2).val j) | none => (mkR G P ops ta nt rs e2).tm j := by
  obtain ⟨_, h2, _⟩ := chkText_at h ho
  funext t
  unfold Run.tm
  show (match wrOf ops t with | some i => _ | none => _) = _
  cases hw : wrOf ops t with
  | none =>
    cases hd : o.dst with
    | none => simp only; show _ = (match wrOf ops t with | some i => _ | none => _); rw [hw]
    | some d =>
      have : t ≠ d := fun e => by rw [e, (h2 d hd).2] at hw; cases hw
      simp only [upd, this, if_false]
      show _ = (match wrOf ops t with | some i => _ | none => _)
      rw [hw]
  | some i =>
    by_cases hij : i = j
    · subst hij
      obtain ⟨oi, hoi, hdi⟩ := wrOf_some hw
      rw [ho] at hoi
      cases hoi
      simp [hdi, upd]
    · have key : (i < j + 1) ↔ i < j := by omega
      simp only [key]
      cases hd : o.dst with
      | none => simp only; show _ = (match wrOf ops t with | some i => _ | none => _); rw [hw]
      | some d =>
        have : t ≠ d := fun e => by
          rw [e, (h2 d hd).2] at hw
          cases hw
          exact hij rfl
        simp only [upd, this, if_false]
        show _ = (match wrOf ops t with | some i => _ | none => _)
        rw [hw]
theorem RegR.ops_ (hc : chkText G nt ops bf = true) {l : List Oper} {ta ta2 : Nat → Value} {e e20 : Mem} {rs : List (Rec × Mem)} (h : RegR G P nt ops l ta e rs ta2 e20) {rs0 : List (Rec × Mem)} {ta0 : Nat → Value} : ∀ (j : Nat), ops.toList.drop j = l → rs0.drop j = rs → rs0.length = ops.size → ta = (mkR G P ops ta0 nt rs0 e20).tm j →
    (∀ k o, j ≤ k → ops[k]? = some o → ((mkR G P ops ta0 nt rs0 e20).wanted k o = false ∧ (mkR G P ops ta0 nt rs0 e20).did k = .skip ∧ (mkR G P ops ta0 nt rs0 e20).mem (k + 1) = (mkR G P ops ta0 nt rs0 e20).mem k) ∨
      ((mkR G P ops ta0 nt rs0 e20).wanted k o = true ∧ ((mkR G P ops ta0 nt rs0 e20).did k).Right G P o (oper2 ((mkR G P ops ta0 nt rs0 e20).tm k)) ((mkR G P ops ta0 nt rs0 e20).mem k) ((mkR G P ops ta0 nt rs0 e20).mem (k + 1)))) ∧ ta2 = (mkR G P ops ta0 nt rs0 e20).tm ops.size := by
  have hjo_of : ∀ {j : Nat} {o : Oper} {l : List Oper}, ops.toList.drop j = o :: l → ops[j]? = some o ∧ ops.toList.drop (j + 1) = l := fun {j o l} hj => by
    refine ⟨?_, ?_⟩
    · have := congrArg List.head? hj
      rw [List.head?_drop] at this
      simpa using this
    · have := congrArg List.tail hj
      simpa using this
  have mem_at : ∀ {j : Nat} {r : Rec} {e' e2 : Mem} {rest : List (Rec × Mem)}, rs0.drop j = (r, e') :: rest → (mkR G P ops ta0 nt rs0 e2).did j = r ∧ (mkR G P ops ta0 nt rs0 e2).mem j = e' ∧ rs0.drop (j + 1) = rest := fun {j r e' e2 rest} hr => by
    have hg : rs0[j]? = some (r, e') := by
      have := congrArg List.head? hr
      rw [List.head?_drop] at this
      simpa using this
    refine ⟨by simp [mkR, hg], by simp [mkR, hg], by have := congrArg List.tail hr; simpa using this⟩
  have mem_next : ∀ {j : Nat} {l : List Oper} {ta1 ta2' : Nat → Value} {e1 e2 : Mem} {rest : List (Rec × Mem)}, rs0.drop j = rest → RegR G P nt ops l ta1 e1 rest ta2' e2 → (mkR G P ops ta0 nt rs0 e2).mem j = e1 := fun {j l ta1 ta2' e1 e2 rest} hd hr => by
    have hh := hr.head.1
    cases rest with
    | nil =>
      have hg : rs0[j]? = none := by
        have := congrArg List.head? hd
        rw [List.head?_drop] at this
        simpa using this
      simp only at hh
      simp [mkR, hg, hh]
    | cons x xs =>
      obtain ⟨rx, ex⟩ := x
      have hg : rs0[j]? = some (rx, ex) := by
        have := congrArg List.head? hd
        rw [List.head?_drop] at this
        simpa using this
      simp only at hh
      simp [mkR, hg, hh]
  induction h with
  | nil ta e20 =>
    intro j hj hrs hlen htm
    have hjn : ops.size ≤ j := by have := congrArg List.length hj; simp at this; omega
    have : (mkR G P ops ta0 nt rs0 e20).tm ops.size = (mkR G P ops ta0 nt rs0 e20).tm j := by
      funext t
      unfold Run.tm
      show (match wrOf ops t with | some i => _ | none => _) = (match wrOf ops t with | some i => _ | none => _)
      cases hw : wrOf ops t with
      | none => rfl
      | some i =>
        obtain ⟨oi, hoi, _⟩ := wrOf_some hw
        have hi := (Array.getElem?_eq_some_iff.1 hoi).1
        simp only [hi, show i < j by omega, if_true]
    refine ⟨fun k o hk ho => ?_, by rw [this]; exact htm⟩
    have := (Array.getElem?_eq_some_iff.1 ho).1
    omega
  | @skip o l ta σ rs ta2 σ2 hw hd h ih =>
    intro j hj hrs hlen htm
    obtain ⟨hjo, hj'⟩ := hjo_of hj
    obtain ⟨hdid, hmem, hdr⟩ := mem_at (e2 := σ2) hrs
    have hwt : ∀ k : Nat, (mkR G P ops ta0 nt rs0 σ2).wanted k o = wantedT ops ((mkR G P ops ta0 nt rs0 σ2).tm k) o := fun _ => rfl
    obtain ⟨g1, g2⟩ := ih (j + 1) hj' hdr hlen (by
      rw [tmR_succ hc hjo]
      have hv : (mkR G P ops ta0 nt rs0 σ2).val j = undef := by unfold Run.val; rw [hdid]; rfl
      rw [hv, ← htm]
      cases o.dst <;> rfl)
    refine ⟨fun k o' hk ho' => ?_, g2⟩
    rcases Nat.lt_or_ge j k with h1 | h1
    · exact g1 k o' h1 ho'
    · obtain rfl : k = j := by omega
      rw [hjo] at ho'
      cases ho'
      exact .inl ⟨by rw [hwt, ← htm]; exact hw, hdid, by rw [mem_next hdr h, hmem]⟩
  | @op o l ta σ σ1 r rs ta2 σ2 hw hk hr hd h ih =>
    intro j hj hrs hlen htm
    obtain ⟨hjo, hj'⟩ := hjo_of hj
    obtain ⟨hdid, hmem, hdr⟩ := mem_at (e2 := σ2) hrs
    have hwt : ∀ k : Nat, (mkR G P ops ta0 nt rs0 σ2).wanted k o = wantedT ops ((mkR G P ops ta0 nt rs0 σ2).tm k) o := fun _ => rfl
    obtain ⟨g1, g2⟩ := ih (j + 1) hj' hdr hlen (by
      rw [tmR_succ hc hjo]
      have hv : (mkR G P ops ta0 nt rs0 σ2).val j = r.value σ := by unfold Run.val; rw [hdid, hmem]
      rw [hv, ← htm]
      cases o.dst <;> rfl)
    refine ⟨fun k o' hk' ho' => ?_, g2⟩
    rcases Nat.lt_or_ge j k with h1 | h1
    · exact g1 k o' h1 ho'
    · obtain rfl : k = j := by omega
      rw [hjo] at ho'
      cases ho'
      refine .inr ⟨by rw [hwt, ← htm]; exact hw, ?_⟩
      rw [hdid, hmem, mem_next hdr h, ← htm]
      exact hr
def stagesR : List (Rec × Mem) → Nat → Nat → Mem → List (Nat × Mem)
 | [], _, n, e2 => [(n, e2)]
 | (r, e) :: l, j, n, e2 => cond r.isE ((j, e) :: stagesR l (j + 1) n e2) (stagesR l (j + 1) n e2)
theorem stagesR_end (n : Nat) (e2 : Mem) : ∀ (l : List (Rec × Mem)) (j : Nat), (n, e2) ∈ stagesR l j n e2
 | [], j => by simp [stagesR]
 | (r, e) :: l, j => by
  simp only [stagesR]
  cases r.isE
  ·exact stagesR_end n e2 l (j + 1)
  ·exact List.mem_cons_of_mem _ (stagesR_end n e2 l (j + 1))
theorem stagesR_at {n : Nat} {e2 : Mem} : ∀ (l : List (Rec × Mem)) (j k : Nat) (r : Rec) (e : Mem), l[k]? = some (r, e) → r.isE = true → (j + k, e) ∈ stagesR l j n e2
 | [], j, k, r, e, h, _ => by simp at h
 | (r0, e0) :: l, j, 0, r, e, h, hr => by
  simp at h
  obtain ⟨rfl, rfl⟩ := h
  simp [stagesR, hr]
 | (r0, e0) :: l, j, k + 1, r, e, h, hr => by
  have := stagesR_at (n := n) (e2 := e2) l (j + 1) k r e (by simpa using h) hr
  rw [show j + 1 + k = j + (k + 1) by omega] at this
  simp only [stagesR]
  cases r0.isE
  ·exact this
  ·exact List.mem_cons_of_mem _ this
def DynP (bf : List Nat) (em n : Nat) (st : List (Nat × Mem)) : List (Rec × Mem) → Nat → Prop
  | [], _ => True
  | (r, e) :: l, j => (match r with
      | .load b _ _ _ => fixedAt bf em n j = true ∨ ∃ row, e.get b = some (.row row) ∧ ∀ s ∈ st, mayMeet bf em n j s.1 = true → s.2.get b = some (.row row)
      | .make x _ => upperFixed bf em n j = true ∨ ∀ s ∈ st, j < s.1 → mayMeet bf em n j s.1 = true → s.2.get e.next = some x
      | _ => True) ∧ DynP bf em n st l (j + 1)
theorem DynP_at {em n : Nat} {st : List (Nat × Mem)} : ∀ (l : List (Rec × Mem)) (m j : Nat) (r : Rec) (e : Mem), DynP bf em n st l m → l[j]? = some (r, e) → (match r with
      | .load b _ _ _ => fixedAt bf em n (m + j) = true ∨ ∃ row, e.get b = some (.row row) ∧ ∀ s ∈ st, mayMeet bf em n (m + j) s.1 = true → s.2.get b = some (.row row)
      | .make x _ => upperFixed bf em n (m + j) = true ∨ ∀ s ∈ st, m + j < s.1 → mayMeet bf em n (m + j) s.1 = true → s.2.get e.next = some x
      | _ => True)
  | [], m, j, r, e, _, h => by simp at h
  | (r0, e0) :: l, m, 0, r, e, h, hj => by
    simp at hj
    obtain ⟨rfl, rfl⟩ := hj
    have := h.1
    simpa using this
  | (r0, e0) :: l, m, j + 1, r, e, h, hj => by
    have := DynP_at l (m + 1) j r e h.2 (by simpa using hj)
    rw [show m + 1 + j = m + (j + 1) by omega] at this
    simpa using this
theorem RegR.ok {ta ta2 : Nat → Value} {e e2 : Mem} {rs : List (Rec × Mem)} (hc : chkText G nt ops (masks ops.toList []) = true) (hr : RegR G P nt ops ops.toList ta e rs ta2 e2) (he : chkEff (masks ops.toList []) (effR rs 0) ops.size = true) (hd : DynP (masks ops.toList []) (effR rs 0) ops.size (stagesR rs 0 ops.size e2) rs 0) (hG : G ≤ e.next) :
    (mkR G P ops ta nt rs e2).Ok ∧ (mkR G P ops ta nt rs e2).mem 0 = e ∧ (mkR G P ops ta nt rs e2).mem ops.size = e2 ∧ (mkR G P ops ta nt rs e2).tm ops.size = ta2 := by
  generalize hbf : masks ops.toList [] = bf at hc he hd
  have hbf := hbf.symm
  obtain ⟨hhead, hlen⟩ := hr.head
  have hlen' : rs.length = ops.size := by simpa using hlen
  have bit : ∀ k i, (bf.getD k 0).testBit i = true → Pre ops i k := by
    rw [hbf]
    exact masks_pre ops.toList [] 0 rfl rfl (by simp)
  have htm0 : ta = (mkR G P ops ta nt rs e2).tm 0 := by
    funext t
    unfold Run.tm
    show _ = (match wrOf ops t with | some i => _ | none => _)
    cases wrOf ops t <;> simp
  obtain ⟨hops, htm⟩ := hr.ops_ hc (rs0 := rs) (ta0 := ta) 0 rfl rfl hlen' htm0
  have mem0 : (mkR G P ops ta nt rs e2).mem 0 = e := by
    cases rs with
    | nil => simp only at hhead; simp [mkR, hhead]
    | cons x xs => obtain ⟨r, e'⟩ := x; simp only at hhead; simp [mkR, hhead]
  have memn : (mkR G P ops ta nt rs e2).mem ops.size = e2 := by
    have : rs[ops.size]? = none := List.getElem?_eq_none (by omega)
    simp [mkR, this]
  have isE : ∀ j, ((mkR G P ops ta nt rs e2).did j).isE = (effR rs 0).testBit j := fun j => by
    rw [effR_bit]
    simp only [Nat.zero_le, decide_true, Bool.true_and, Nat.sub_zero]
    simp only [mkR]
    cases rs[j]? with
    | none => rfl
    | some x => rfl
  generalize hR : mkR G P ops ta nt rs e2 = R at hops htm mem0 memn isE
  have hwr : R.wr = wrOf ops := by rw [← hR]; rfl
  have did_at : ∀ j r e', rs[j]? = some (r, e') → R.did j = r ∧ R.mem j = e' := fun j r e' h => by rw [← hR]; simp [mkR, h]
  -- the effects are in order
  have ord : ∀ j i, i < j → j < ops.size → (R.did i).isE = true → (R.did j).isE = true → Pre ops i j := by
    intro j
    induction j using Nat.strongRecOn with
    | _ j ih =>
      intro i hij hj hi hj'
      have := List.all_eq_true.1 he j (List.mem_range.2 hj)
      rw [isE] at hj' hi
      rw [hj'] at this
      simp only [Bool.not_true, Bool.false_or] at this
      split at this
      · rename_i hn
        have := lastE_none hn i hij
        rw [this] at hi
        cases hi
      · rename_i i' hl
        obtain ⟨g1, g2, g3⟩ := lastE_spec hl
        have hp := bit _ _ this
        rcases Nat.lt_trichotomy i i' with h1 | h1 | h1
        · exact (ih i' g1 i h1 (by omega) (by rw [isE]; exact hi) (by rw [isE]; exact g2)).trans hp
        · rw [h1]; exact hp
        · have := g3 i h1 hij
          rw [this] at hi
          cases hi
  -- memory of a stage
  have stage_mem : ∀ J, R.Stage J → ∃ e', (J, e') ∈ stagesR rs 0 ops.size e2 ∧ R.mem J = e' := fun J hJ => by
    rcases hJ with rfl | ⟨h1, h2⟩
    · exact ⟨e2, stagesR_end _ _ _ _, memn⟩
    · have hlt : J < rs.length := by omega
      obtain ⟨g1, g2⟩ := did_at J rs[J].1 rs[J].2 (by simp [hlt])
      refine ⟨rs[J].2, ?_, g2⟩
      have := stagesR_at (n := ops.size) (e2 := e2) rs 0 J rs[J].1 rs[J].2 (by simp [hlt]) (by rw [← g1]; exact h2)
      simpa using this
  have meets : ∀ j J, R.Meets j J → mayMeet bf (effR rs 0) ops.size j J = true := fun j J ⟨_, h1, h2⟩ => by
    unfold mayMeet
    rw [List.all_eq_true]
    intro e he
    have he := List.mem_range.1 he
    simp only [Bool.or_eq_true, Bool.not_eq_true']
    cases hE : (effR rs 0).testBit e with
    | false => exact .inl rfl
    | true =>
      refine .inr ?_
      have hE' : (R.did e).isE = true := by rw [isE]; exact hE
      split
      · rename_i hlt
        cases hb : (bf.getD e 0).testBit j with
        | false => rfl
        | true => exact absurd (bit _ _ hb) (h1 e hlt hE')
      · rename_i hlt
        cases hb : (bf.getD j 0).testBit e with
        | false => rfl
        | true => exact absurd (h2 e he hE' (bit _ _ hb)) hlt
  -- steps without effects leave what lies there
  have step : ∀ k, k < ops.size → (R.did k).isE = false → R.mem (k + 1) = R.mem k ∨ ∃ x fm, R.did k = .make x fm ∧ R.mem (k + 1) = (R.mem k).push x := fun k hk hn => by
    rcases hops k ops[k] (Nat.zero_le _) (by simp [hk]) with ⟨_, _, h⟩ | ⟨_, h⟩
    · exact .inl h
    · cases hd : R.did k <;> rw [hd] at h hn <;> simp only [Rec.Right, Rec.isE] at h hn
      · exact .inl h.2
      · exact .inl h.2.1
      · exact .inr ⟨_, _, rfl, h.2⟩
      · cases hn
  have calm : ∀ (d j : Nat), j + d ≤ ops.size → (∀ k, j ≤ k → k < j + d → (R.did k).isE = false) → ∀ b, b < (R.mem j).next → (R.mem (j + d)).get b = (R.mem j).get b ∧ b < (R.mem (j + d)).next := by
    intro d
    induction d with
    | zero => intro j _ _ b hb; exact ⟨rfl, hb⟩
    | succ d ih =>
      intro j hj hn b hb
      obtain ⟨h1, h2⟩ := ih j (by omega) (fun k a c => hn k a (by omega)) b hb
      rcases step (j + d) (by omega) (hn _ (by omega) (by omega)) with h | ⟨x, fm, _, h⟩
      · rw [show j + (d + 1) = j + d + 1 by omega, h]; exact ⟨h1, h2⟩
      · rw [show j + (d + 1) = j + d + 1 by omega, h, Mem.push_get, if_neg (by omega)]
        exact ⟨h1, by simp [Mem.push]; omega⟩
  -- the natural stage
  have natural : ∀ j J, j < ops.size → (R.did j).isE = false → upperFixed bf (effR rs 0) ops.size j = true → j < J → R.Meets j J → ∀ k, j ≤ k → k < J → (R.did k).isE = false := fun j J hj hjE hu hjJ hM k hk1 hk2 => by
    obtain ⟨hSt, hM1, hM2⟩ := hM
    have hJn : J ≤ ops.size := by rcases hSt with h | h <;> omega
    cases hkE : (R.did k).isE with
    | false => rfl
    | true =>
      exfalso
      have hjk : j < k := by
        rcases Nat.lt_or_ge j k with h | h
        · exact h
        · obtain rfl : k = j := by omega
          rw [hjE] at hkE; cases hkE
      unfold upperFixed at hu
      split at hu
      · rename_i hn
        have := firstE_none (by omega) hn k (by omega) (by omega)
        rw [← isE, hkE] at this
        cases this
      · rename_i i hf
        obtain ⟨g1, g2, g3, g4⟩ := firstE_spec hf
        have hik : i ≤ k := by
          rcases Nat.lt_or_ge k i with h | h
          · have := g4 k (by omega) h
            rw [← isE, hkE] at this
            cases this
          · exact h
        exact hM1 i (by omega) (by rw [isE]; exact g3) (bit _ _ hu)
  refine ⟨⟨fun t i => ?_, fun j o ho => (chkText_at hc ho).1, fun j o t i ho ht hi => ?_, fun j o d ho hdst => ((chkText_at hc ho).2.1 d hdst).1, fun j o g w ho hg => ?_, fun i j hij hj hi hj' => ord j i hij hj hi hj', by rw [mem0]; exact hG, fun j o v ho hv μ => ?_, fun j o g ho hg => ?_, fun j o ho => ?_⟩, mem0, memn, htm.symm⟩
  · rw [hwr]
    exact ⟨wrOf_some, fun ⟨o, ho, hdst⟩ => ((chkText_at hc ho).2.1 t hdst).2⟩
  · rw [hwr] at hi
    obtain ⟨h1, h2⟩ := (chkText_at hc ho).2.2.1 t ht i hi
    exact ⟨fun h => bit _ _ (h1 h), fun h => bit _ _ (h2 h)⟩
  · obtain ⟨h1, h2⟩ := (chkText_at hc ho).2.2.2.1 g w hg
    cases hog : ops[g]? with
    | none => rw [hog] at h2; cases h2
    | some og =>
      rw [hog] at h2
      cases hdd : og.dst with
      | none => simp [hdd] at h2
      | some d => exact ⟨og, d, rfl, hdd, h1⟩
  · have := Array.all_eq_true_iff_forall_mem.1 ((allA_eq _ _).symm.trans (chkText_at hc ho).2.2.2.2) _ hv
    exact closedV_rel μ 3 v this
  · have := Array.all_eq_true_iff_forall_mem.1 ((allA_eq _ _).symm.trans (chkText_at hc ho).2.2.2.2) _ hg
    have h0 : cond (Nat.blt g 64) (Nat.blt g G) false = true := this
    exact (glob_ok h0).symm
  · have hjn : j < ops.size := (Array.getElem?_eq_some_iff.1 ho).1
    have hlt : j < rs.length := by omega
    obtain ⟨hdj, hmj⟩ := did_at j rs[j].1 rs[j].2 (by simp [hlt])
    have hdyn := DynP_at rs 0 j rs[j].1 rs[j].2 hd (by simp [hlt])
    rw [← hdj, Nat.zero_add] at hdyn
    rcases hops j o (Nat.zero_le _) ho with h | ⟨hw, hright⟩
    · exact .inl h
    · refine .inr ⟨hw, ?_⟩
      cases hrec : R.did j with
      | skip => rw [hrec] at hright; exact hright
      | val v => rw [hrec] at hright; exact hright
      | load b off cs v =>
        rw [hrec] at hright hdyn
        obtain ⟨h1, h2, h3, r, hr', hcs⟩ := hright
        have hjE : (R.did j).isE = false := by rw [hrec]; rfl
        refine ⟨h1, h2, h3, Mem.lt hr', fun J hM => ?_⟩
        rcases hdyn with hfix | hsame
        · unfold fixedAt at hfix
          simp only [Bool.and_eq_true] at hfix
          have hjJ : j < J := by
            rcases Nat.lt_or_ge j J with h | h
            · exact h
            · exfalso
              obtain ⟨hSt, hM1, hM2⟩ := hM
              rcases hSt with h' | ⟨hJ1, hJ2⟩
              · omega
              · have hJj : J ≠ j := fun e => by rw [e, hjE] at hJ2; cases hJ2
                have hf1 := hfix.1
                split at hf1
                · rename_i hn
                  have := lastE_none hn J (by omega)
                  rw [← isE, hJ2] at this
                  cases this
                · rename_i i hl
                  obtain ⟨g1, g2, g3⟩ := lastE_spec hl
                  have hJi : J ≤ i := by
                    rcases Nat.lt_or_ge i J with h' | h'
                    · have := g3 J h' (by omega)
                      rw [← isE, hJ2] at this
                      cases this
                    · exact h'
                  have := hM2 i (by omega) (by rw [isE]; exact g2) (bit _ _ hf1)
                  omega
          have hnat := natural j J hjn hjE hfix.2 hjJ hM
          have hJn : J ≤ ops.size := by rcases hM.1 with h | h <;> omega
          obtain ⟨g1, g2⟩ := calm (J - j) j (by omega) (fun k a c => hnat k a (by omega)) b (Mem.lt hr')
          rw [show j + (J - j) = J by omega] at g1 g2
          refine ⟨r, ?_, hcs⟩
          unfold Run.at_
          rw [if_pos g2, g1, hr']
        · rw [hmj] at hr'
          obtain ⟨row, hrow, hsame⟩ := hsame
          obtain ⟨e', he', hmJ⟩ := stage_mem J hM.1
          have hg := hsame _ he' (meets j J hM)
          simp only at hg
          rw [← hmJ] at hg
          rw [hrow] at hr'
          cases hr'
          refine ⟨_, ?_, hcs⟩
          unfold Run.at_
          rw [if_pos (Mem.lt hg), hg]
      | make x fm =>
        rw [hrec] at hright hdyn
        obtain ⟨h1, h2⟩ := hright
        have hjE : (R.did j).isE = false := by rw [hrec]; rfl
        refine ⟨h1, h2, fun J hjJ hM => ?_⟩
        have hJn : J ≤ ops.size := by rcases hM.1 with h | h <;> omega
        rcases hdyn with hfix | hsame
        · have hnat := natural j J hjn hjE hfix hjJ hM
          have hget : (R.mem (j + 1)).get (R.mem j).next = some x := by rw [h2, Mem.push_get, if_pos rfl]
          obtain ⟨g1, _⟩ := calm (J - (j + 1)) (j + 1) (by omega) (fun k a c => hnat k (by omega) (by omega)) (R.mem j).next (by rw [h2]; simp [Mem.push])
          rw [show j + 1 + (J - (j + 1)) = J by omega] at g1
          rw [g1, hget]
        · obtain ⟨e', he', hmJ⟩ := stage_mem J hM.1
          have hg := hsame _ he' hjJ (meets j J hM)
          simp only at hg
          rw [hmJ, hmj]
          exact hg
      | eff v => rw [hrec] at hright; exact hright
theorem putO_rel {μ : Mu} {ta : Nat → Value} {v vc : Value} {d : Option Nat} {a : Act} (h : dstOk nt d = true) (ht : TRel μ nt ta a.tmps) (hv : VRel μ v vc) : TRel μ nt (putO ta d v) (a.put d vc).tmps := by
 cases d with
 | none => exact ht
 | some d => exact ht.put (by simpa [dstOk, Nat.blt_eq] using h) hv
theorem orel_ofR {μ : Mu} {σ : Mem} {w : World} {ta : Nat → Value} {a : Act} {o : Oper} (hs : Sim G μ σ w) (ht : TRel μ nt ta a.tmps) (h : opndOk G o = true) : ORel μ (oper2 ta) a.eval o.op.operands := fun x hx => by
 have := Array.all_eq_true_iff_forall_mem.1 ((allA_eq _ _).symm.trans h) x hx
 cases x with
 | tmp t => exact ht.2 t
 | const v => exact closedV_rel μ 3 v this
 | global g =>
  have h64 := glob_ok this
  obtain ⟨bi, h1, h23⟩ := hs.glob g h64.2
  obtain ⟨h2, h3⟩ := h23 h64.1
  have k := VRel.ptr (μ := μ) g 0 bi h1
  rw [h2, h3] at k
  exact k
 | func f => exact .func _ _ _ _ _ rfl rfl (by simp) rfl (by simp)
theorem wanted_ofR {μ : Mu} {ta : Nat → Value} {a : Act} {ops : Array Oper} {o : Oper} (ht : TRel μ nt ta a.tmps) : Region.wanted o (yielded ops a.tmps) = wantedT ops ta o := by
 unfold Region.wanted wantedT
 cases o.guard with
 | none => rfl
 | some gw =>
  obtain ⟨g, want⟩ := gw
  simp only [yielded]
  cases hd : (ops[g]?).bind (·.dst) with
  | none => rfl
  | some d =>
   simp only [Option.bind_some]
   have hv := ht.2 d
   cases hy : a.tmps[d]? with
   | none =>
    have e : a.tmps.getD d undef = undef := by simp [hy]
    rw [e] at hv
    generalize ta d = z at hv
    cases z <;> first | rfl | (exfalso; cases hv; done)
   | some y =>
    have e : a.tmps.getD d undef = y := by simp [hy]
    rw [e] at hv
    generalize ta d = z at hv
    cases hv with
    | flat _ => cases y <;> first | rfl | (simp; done)
    | _ => first | rfl | (simp; done)
theorem RegR.text {rc : Option Nat} {l : List Oper} {ta ta2 : Nat → Value} {e e2 : Mem} {rs : List (Rec × Mem)} (h : RegR G P nt ops l ta e rs ta2 e2) : ∀ (j : Nat), ops.toList.drop j = l →
    e.next ≤ e2.next ∧ ∀ μ w (a : Act), Sim G μ e w → G ≤ e.next → Fresh μ e e2 → TRel μ nt ta a.tmps → ∀ Q : Exit → Act → World → Prop, (∀ (a' : Act) w' μ', a'.defers = a.defers → Stp G e μ w e2 μ' w' → TRel μ' nt ta2 a'.tmps → Q .normal a' w') → wpOpsIn (FW rc) 0 P ops Q (List.range' j l.length) a w := by
  have hjo_of : ∀ {j : Nat} {o : Oper} {l : List Oper}, ops.toList.drop j = o :: l → ops[j]? = some o ∧ ops.toList.drop (j + 1) = l := fun {j o l} hj => by
    refine ⟨?_, ?_⟩
    · have := congrArg List.head? hj
      rw [List.head?_drop] at this
      simpa using this
    · have := congrArg List.tail hj
      simpa using this
  induction h with
  | nil ta e => exact fun j hj => ⟨Nat.le_refl _, fun μ w a hs hG _ ht Q hQ => hQ a w μ rfl (Stp.refl hs hG) ht⟩
  | @skip o l ta e rs ta2 e2 hw hd h ih =>
    intro j hj
    obtain ⟨hjo, hj'⟩ := hjo_of hj
    obtain ⟨h1, h2⟩ := ih (j + 1) hj'
    refine ⟨h1, fun μ w a hs hG hf ht Q hQ => ?_⟩
    rw [List.length_cons, List.range'_succ]
    simp only [wpOpsIn, hjo, wanted_ofR ht, hw, Bool.false_eq_true, if_false]
    refine ⟨fun _ _ => trivial, h2 μ w _ hs hG hf (putO_rel hd ht (VRel.undef μ)) Q fun a' w' μ' hd' hst htr => hQ a' w' μ' (hd'.trans ?_) hst htr⟩
    cases o.dst <;> rfl
  | @op o l ta e e1 r rs ta2 e2 hw hk hr hd h ih =>
    intro j hj
    obtain ⟨hjo, hj'⟩ := hjo_of hj
    obtain ⟨h1, h2⟩ := ih (j + 1) hj'
    have heop := hr.eop
    refine ⟨Nat.le_trans heop.1 h1, fun μ w a hs hG hf ht Q hQ => ?_⟩
    rw [List.length_cons, List.range'_succ]
    simp only [wpOpsIn, hjo, wanted_ofR ht, hw, if_true]
    refine heop.2 μ w a hs hG (fun b g1 g2 => hf b g1 (Nat.lt_of_lt_of_le g2 h1)) (orel_ofR hs ht hk) _ _ (fun vc w1 μ1 s1 hv => ?_) rc
    refine h2 μ1 w1 _ s1.sim (Nat.le_trans hG s1.next) (fun b g1 g2 => ?_) (putO_rel hd (ht.ext s1.extE) hv) Q fun a' w' μ' hd' hst htr => hQ a' w' μ' (hd'.trans ?_) (s1.trans hst) htr
    · rw [s1.ext b (.inr g1)]; exact hf b (Nat.le_trans s1.next g1) g2
    · cases o.dst <;> rfl
theorem RegR.plain {rd : Option Nat} {id : Nat} {dm : List DItem} {ta ta2 : Nat → Value} {σ σ2 : Mem} {rs : List (Rec × Mem)} (h : RegR G P nt ops ops.toList ta σ rs ta2 σ2) : SCode G P rd nt (.region id ops false) ta dm σ .normal ta2 dm σ2 := by
 refine ⟨(h.text (rc := none) 0 rfl).1, fun μ w a rc hs hG hf ht hd _ Q hQ => wpIn_region ?_⟩
 have h3 := (h.text (rc := rc) 0 rfl).2 μ w a hs hG hf ht Q fun a' w' μ' he hst htr => hQ a' w' μ' (by rw [he]; exact hd.ext hst.extE) hst htr
 rw [List.range_eq_range']
 simpa using h3
theorem RegR.drawn {rd : Option Nat} {id : Nat} {dm : List DItem} {ta ta2 : Nat → Value} {σ σ2 : Mem} {rs : List (Rec × Mem)} (h : RegR G P nt ops ops.toList ta σ rs ta2 σ2) (hm : P.follows .mixedOrders = true) (hc : chkText G nt ops (masks ops.toList []) = true) (he : chkEff (masks ops.toList []) (effR rs 0) ops.size = true) (hd : DynP (masks ops.toList []) (effR rs 0) ops.size (stagesR rs 0 ops.size σ2) rs 0) (hG : G ≤ σ.next) : SCode G P rd nt (.region id ops true) ta dm σ .normal ta2 dm σ2 := by
 obtain ⟨hok, m0, mn, tmn⟩ := h.ok hc he hd hG
 have := region_drawn (id := id) (dm := dm) (rd := rd) hok hm
 rw [m0, mn, tmn] at this
 exact this
end Go.Proofs.YtjcmdifpkafdkaaDoor
namespace Go.Proofs.YtjcmdifpkafdkaaDoor
variable {P : Program} {G : Nat} {nt : Nat} {rd : Option Nat} {ops : Array Oper} {l : List Oper} {ta : Nat → Value} {σ : Mem} {dm : List DItem} {rs : List (Rec × Mem)}

def RW (G : Nat) (P : Program) (nt : Nat) (ops : Array Oper) (l : List Oper) (ta : Nat → Value) (σ : Mem) (rs : List (Rec × Mem)) (K : List (Rec × Mem) → (Nat → Value) → Mem → Prop) : Prop :=
 ∃ rs' ta2 σ2, RegR G P nt ops l ta σ rs' ta2 σ2 ∧ K (rs.reverse ++ rs') ta2 σ2
def W (G : Nat) (P : Program) (rd : Option Nat) (nt : Nat) (c : Code) (ta : Nat → Value) (dm : List DItem) (σ : Mem) (Q : Exit → (Nat → Value) → List DItem → Mem → Prop) : Prop :=
 ∃ ex ta' dm' σ', SCode G P rd nt c ta dm σ ex ta' dm' σ' ∧ Q ex ta' dm' σ'
def WC (G : Nat) (P : Program) (f : FuncId) (args : Array Value) (σ : Mem) (R : Value → Mem → Prop) : Prop := ∃ v σ', SCall G P f args σ v σ' ∧ R v σ'
theorem WC.mono {f : FuncId} {args : Array Value} {R R' : Value → Mem → Prop} (h : WC G P f args σ R) (k : ∀ v σ', R v σ' → R' v σ') : WC G P f args σ R' := by
 obtain ⟨v, σ', h1, h2⟩ := h
 exact ⟨v, σ', h1, k v σ' h2⟩

section
variable {K : List (Rec × Mem) → (Nat → Value) → Mem → Prop} {o : Oper}
theorem RW.nil (h : K rs.reverse ta σ) : RW G P nt ops [] ta σ rs K := ⟨[], ta, σ, .nil ta σ, by simpa using h⟩
theorem RW.op {r : Rec} {σ1 : Mem} (hw : wantedT ops ta o = true) (hk : opndOk G o = true) (hr : r.Right G P o (oper2 ta) σ σ1) (hd : dstOk nt o.dst = true) (h : RW G P nt ops l (putO ta o.dst (r.value σ)) σ1 ((r, σ) :: rs) K) : RW G P nt ops (o :: l) ta σ rs K := by
 obtain ⟨rs', ta2, σ2, h1, h2⟩ := h
 exact ⟨(r, σ) :: rs', ta2, σ2, .op hw hk hr hd h1, by simpa using h2⟩
theorem RW.skip (hw : wantedT ops ta o = false) (hd : dstOk nt o.dst = true) (h : RW G P nt ops l (putO ta o.dst undef) σ ((.skip, σ) :: rs) K) : RW G P nt ops (o :: l) ta σ rs K := by
 obtain ⟨rs', ta2, σ2, h1, h2⟩ := h
 exact ⟨(.skip, σ) :: rs', ta2, σ2, .skip hw hd h1, by simpa using h2⟩
theorem RW.val {v : Value} (hw : wantedT ops ta o = true) (hk : opndOk G o = true) (hs : stepOp G P σ o (oper2 ta) = some (.val v)) (hd : dstOk nt o.dst = true) (h : RW G P nt ops l (putO ta o.dst v) σ ((.val v, σ) :: rs) K) : RW G P nt ops (o :: l) ta σ rs K :=
 RW.op (r := .val v) hw hk ⟨stepOp_right (G := G) (fun _ => rfl) hs, rfl⟩ hd h
theorem RW.valE {v v' : Value} (hw : wantedT ops ta o = true) (hk : opndOk G o = true) (hs : stepOp G P σ o (oper2 ta) = some (.val v)) (he : v = v') (hd : dstOk nt o.dst = true) (h : RW G P nt ops l (putO ta o.dst v') σ ((.val v', σ) :: rs) K) : RW G P nt ops (o :: l) ta σ rs K := by
 subst he
 exact RW.val hw hk hs hd h
theorem RW.vop {v : Value} (hw : wantedT ops ta o = true) (hk : opndOk G o = true) (hs : VOp P o (oper2 ta) v) (hd : dstOk nt o.dst = true) (h : RW G P nt ops l (putO ta o.dst v) σ ((.val v, σ) :: rs) K) : RW G P nt ops (o :: l) ta σ rs K :=
 RW.op (r := .val v) hw hk ⟨hs, rfl⟩ hd h
theorem upd_same {ta : Nat → Value} {d : Nat} {v : Value} (h : ta d = v) : upd ta d v = ta := by
 funext t
 unfold upd
 by_cases ht : t = d
 ·rw [if_pos ht, ht, h]
 ·rw [if_neg ht]
theorem RW.both {d : Nat} {b : Bool} (g : Nat) (want : Bool) (_ : o.guard = some (g, want)) (_ : (ops[g]?).bind (·.dst) = some d) (hb : ta d = .bool b) (h1 : b = true → RW G P nt ops (o :: l) (upd ta d (.bool true)) σ rs K) (h0 : b = false → RW G P nt ops (o :: l) (upd ta d (.bool false)) σ rs K) : RW G P nt ops (o :: l) ta σ rs K := by
 cases b with
 | true => have := h1 rfl; rwa [upd_same hb] at this
 | false => have := h0 rfl; rwa [upd_same hb] at this
theorem RW.call {c : Call} {x : Operand} {f : FuncId} {fa ca : Array Value} (hw : wantedT ops ta o = true) (hk : opndOk G o = true) (ho : o.op = .call c) (hc : c.callee = .value x) (hx : oper2 ta x = .func (.func f) fa ca) (hp : plainFn P f = true) (hd : dstOk nt o.dst = true)
    (h : WC G P f (List.toArray (fa.toList ++ c.args.toList.map (oper2 ta) ++ ca.toList)) σ fun v σ1 => RW G P nt ops l (putO ta o.dst v) σ1 ((.eff v, σ) :: rs) K) : RW G P nt ops (o :: l) ta σ rs K := by
  obtain ⟨v, σ1, h1, h2⟩ := h
  have e : List.toArray (fa.toList ++ c.args.toList.map (oper2 ta) ++ ca.toList) = fa ++ c.args.map (oper2 ta) ++ ca := by
    apply Array.ext'
    simp
  rw [e] at h1
  exact RW.op (r := .eff v) hw hk (eop_call ho hc hx hp h1) hd h2
end
section
variable {Q : Exit → (Nat → Value) → List DItem → Mem → Prop} {x y c : Code}
def seqQ (G : Nat) (P : Program) (rd : Option Nat) (nt : Nat) (y : Code) (Q : Exit → (Nat → Value) → List DItem → Mem → Prop) : Exit → (Nat → Value) → List DItem → Mem → Prop
 | .normal, ta, dm, σ => W G P rd nt y ta dm σ Q
 | ex, ta, dm, σ => Q ex ta dm σ
theorem W.region {id : Nat} (h : RW G P nt ops ops.toList ta σ [] fun _ ta' σ' => Q .normal ta' dm σ') : W G P rd nt (.region id ops false) ta dm σ Q := by
 obtain ⟨rs', ta2, σ2, h1, h2⟩ := h
 exact ⟨.normal, ta2, dm, σ2, h1.plain, h2⟩
theorem W.drawn {id : Nat} (hm : P.follows .mixedOrders = true) (hc : chkText G nt ops (masks ops.toList []) = true) (hG : G ≤ σ.next) (h : RW G P nt ops ops.toList ta σ [] fun rs ta' σ' => (chkEff (masks ops.toList []) (effR rs 0) ops.size = true ∧ DynP (masks ops.toList []) (effR rs 0) ops.size (stagesR rs 0 ops.size σ') rs 0) ∧ Q .normal ta' dm σ') : W G P rd nt (.region id ops true) ta dm σ Q := by
 obtain ⟨rs', ta2, σ2, h1, ⟨h2, h3⟩, h4⟩ := h
 exact ⟨.normal, ta2, dm, σ2, h1.drawn hm hc (by simpa using h2) (by simpa using h3) hG, h4⟩
theorem W.seq (h : W G P rd nt x ta dm σ (seqQ G P rd nt y Q)) : W G P rd nt (.seq x y) ta dm σ Q := by
 obtain ⟨ex, ta', dm', σ', h1, h2⟩ := h
 by_cases hx : ex = .normal
 ·subst hx
  obtain ⟨ex2, ta2, dm2, σ2, h3, h4⟩ := h2
  exact ⟨ex2, ta2, dm2, σ2, h1.seq h3, h4⟩
 ·refine ⟨ex, ta', dm', σ', h1.seq_out hx, ?_⟩
  unfold seqQ at h2
  split at h2
  ·exact absurd rfl hx
  ·exact h2
theorem W.cond {b : Bool} {c : Operand} (hc : oper2 ta c = .bool b) (h1 : b = true → W G P rd nt x ta dm σ Q) (h0 : b = false → W G P rd nt y ta dm σ Q) : W G P rd nt (.cond c x y) ta dm σ Q := by
 cases b with
 | true =>
  obtain ⟨ex, ta', dm', σ', h, k⟩ := h1 rfl
  exact ⟨ex, ta', dm', σ', SCode.cond hc h, k⟩
 | false =>
  obtain ⟨ex, ta', dm', σ', h, k⟩ := h0 rfl
  exact ⟨ex, ta', dm', σ', SCode.cond hc h, k⟩
def blkQ (id : Nat) (Q : Exit → (Nat → Value) → List DItem → Mem → Prop) (ex : Exit) (ta : Nat → Value) (dm : List DItem) (σ : Mem) : Prop := Q (outOf id ex) ta dm σ
theorem seqQ_ret (h : Q .ret ta dm σ) : seqQ G P rd nt y Q .ret ta dm σ := h
theorem blkQ_ret {id : Nat} (h : Q .ret ta dm σ) : blkQ id Q .ret ta dm σ := h
theorem W.block {id : Nat} (h : W G P rd nt c ta dm σ (blkQ id Q)) : W G P rd nt (.block id c) ta dm σ Q := by
 obtain ⟨ex, ta', dm', σ', h1, h2⟩ := h
 exact ⟨_, ta', dm', σ', h1.block, h2⟩
theorem W.scope (h : W G P rd nt c ta dm σ fun ex ta' dm' σ' => notGoto ex = true ∧ Q ex ta' dm' σ') : W G P rd nt (.scope c) ta dm σ Q := by
 obtain ⟨ex, ta', dm', σ', h1, h2, h3⟩ := h
 exact ⟨_, ta', dm', σ', h1.scope h2, h3⟩
theorem W.exit (id : Nat) (h : Q (.exit id) ta dm σ) : W G P rd nt (.exit id) ta dm σ Q := ⟨_, ta, dm, σ, SCode.exit id, h⟩
theorem W.ret (h : Q .ret ta dm σ) : W G P rd nt .ret ta dm σ Q := ⟨_, ta, dm, σ, SCode.ret, h⟩
theorem W.skip (h : Q .normal ta dm σ) : W G P rd nt .skip ta dm σ Q := ⟨_, ta, dm, σ, SCode.skip, h⟩
theorem W.label (i : Nat) (h : Q .normal ta dm σ) : W G P rd nt (.label i) ta dm σ Q := ⟨_, ta, dm, σ, SCode.label i, h⟩
structure Held (id : Nat) (p : Prop) : Prop where
 out : p
def rndQ (I : Nat → (Nat → Value) → Mem → Prop) (n : Nat) (dm : List DItem) (Q : Exit → (Nat → Value) → List DItem → Mem → Prop) : Exit → (Nat → Value) → List DItem → Mem → Prop
 | .normal, ta, dm', σ => dm' = dm ∧ ∃ m, m < n ∧ I m ta σ
 | ex, ta, dm', σ => Q ex ta dm' σ
theorem rndQ_ret {I : Nat → (Nat → Value) → Mem → Prop} {n : Nat} (h : Q .ret ta dm σ) : rndQ I n dm Q .ret ta dm σ := h
theorem W.loop (I : Nat → (Nat → Value) → Mem → Prop) (n : Nat) (h0 : I n ta σ) (hr : ∀ n ta σ, I n ta σ → W G P rd nt c ta dm σ (rndQ I n dm Q)) : W G P rd nt (.loop c) ta dm σ Q := by
 have key : ∀ (n : Nat) (ta : Nat → Value) (σ : Mem), I n ta σ → ∃ k ex ta' dm' σ', SRounds G P rd nt k c ta dm σ ex ta' dm' σ' ∧ Q ex ta' dm' σ' := by
  intro n
  induction n using Nat.strongRecOn with
  | _ n ih =>
   intro ta σ hI
   obtain ⟨ex, ta', dm', σ', h1, h2⟩ := hr n ta σ hI
   by_cases hx : ex = .normal
   ·subst hx
    obtain ⟨rfl, m, hm, hI'⟩ := h2
    obtain ⟨k, ex2, ta2, dm2, σ2, h3, h4⟩ := ih m hm ta' σ' hI'
    exact ⟨k + 1, ex2, ta2, dm2, σ2, SRounds.more h1 h3, h4⟩
   ·refine ⟨0 + 1, ex, ta', dm', σ', SRounds.last 0 h1 hx, ?_⟩
    unfold rndQ at h2
    split at h2
    ·exact absurd rfl hx
    ·exact h2
 obtain ⟨k, ex, ta', dm', σ', h1, h2⟩ := key n ta σ h0
 exact ⟨ex, ta', dm', σ', h1.loop, h2⟩
end
def endQ (P : Program) (rv : List ResultVar) (R : Value → Mem → Prop) (ex : Exit) (ta : Nat → Value) (dm : List DItem) (σ : Mem) : Prop := exOk ex = true ∧ dm = [] ∧ ∃ vs, resL P ta σ rv = some vs ∧ R (tupV vs) σ
theorem WC.enter {f : FuncId} {args : Array Value} {fn : Func} {c : Code} {R : Value → Mem → Prop} (hf : P.funcs[f]? = some fn) (hb : fn.body = some c) (h : W G P none (args.size + (fn.ntmps - args.size)) c (fun t => args.getD t undef) [] σ (endQ P fn.results.toList R)) : WC G P f args σ R := by
 obtain ⟨ex, ta', dm', σ', h1, h2, rfl, vs, h3, h4⟩ := h
 have hex : ex = .normal ∨ ex = .ret := by cases ex <;> simp [exOk] at h2 <;> simp
 exact ⟨_, σ', SCall.of_code hf hb h1 hex (Shut.nil _) (sres h3), h4⟩
theorem wrap_in {a : Int} (h1 : -9223372036854775808 ≤ a) (h2 : a ≤ 9223372036854775807) : IntKind.i64.wrap a = a := by
 simp [IntKind.wrap, IntKind.bits, IntKind.signed]
 omega
theorem rowsAt_at : ∀ (l : List (Nat × List Value)), (l.map (·.1)).Nodup → ∀ g cs, (g, cs) ∈ l → (rowsAt l).get g = some (.b (.row ⟨cs, 0, true⟩))
 | [], _, g, cs, h => by cases h
 | (g0, cs0) :: l, hn, g, cs, h => by
  simp only [rowsAt, T.get_put]
  rw [List.map_cons, List.nodup_cons] at hn
  rcases List.mem_cons.1 h with h1 | h1
  ·cases h1; simp
  ·have : g ≠ g0 := fun e => hn.1 (List.mem_map.2 ⟨(g, cs), h1, e⟩)
   rw [if_neg this]
   exact rowsAt_at l hn.2 g cs h1
end Go.Proofs.YtjcmdifpkafdkaaDoor
namespace Go.Proofs.YtjcmdifpkafdkaaDoor
variable {P : Program} {G : Nat} {nt : Nat} {rd : Option Nat} {ops : Array Oper} {l : List Oper} {ta : Nat → Value} {σ : Mem} {dm : List DItem} {rs : List (Rec × Mem)}

theorem get_push {x : Blk2} : (σ.push x).get σ.next = some x := by rw [Mem.push_get, if_pos rfl]
theorem get_push_old {x y : Blk2} {b : Nat} (h : σ.get b = some y) : (σ.push x).get b = some y := by
 have := Mem.lt h
 rw [Mem.push_get, if_neg (by omega), h]
theorem get_put {x y : Blk2} {b : Nat} (h : σ.get b = some y) : (σ.put b x).get b = some x := by rw [Mem.put_get _ (Mem.lt h), if_pos rfl]
theorem get_put_ne {x y : Blk2} {b c : Nat} (h : σ.get c = some y) (hne : c ≠ b) : (σ.put b x).get c = some y := by
 simp only [Mem.get, Mem.put, if_neg hne] at *
 exact h
theorem get_kill_ne {y : Blk2} {b c : Nat} (h : σ.get c = some y) (hne : c ≠ b) : (σ.kill b).get c = some y := by rw [Mem.kill_get, if_neg hne, h]
section
variable {K : List (Rec × Mem) → (Nat → Value) → Mem → Prop} {o : Oper}
theorem RW.make {x : Blk2} {fm : Nat → Value} (hw : wantedT ops ta o = true) (hk : opndOk G o = true) (hs : stepOp G P σ o (oper2 ta) = some (.make x fm)) (hd : dstOk nt o.dst = true) (h : RW G P nt ops l (putO ta o.dst (fm σ.next)) (σ.push x) ((.make x fm, σ) :: rs) K) : RW G P nt ops (o :: l) ta σ rs K :=
 RW.op (r := .make x fm) hw hk ⟨stepOp_right (G := G) (fun _ => rfl) hs, rfl⟩ hd h
theorem RW.eff {v : Value} {σ1 : Mem} (hw : wantedT ops ta o = true) (hk : opndOk G o = true) (hs : EOp G P o (oper2 ta) σ v σ1) (hd : dstOk nt o.dst = true) (h : RW G P nt ops l (putO ta o.dst v) σ1 ((.eff v, σ) :: rs) K) : RW G P nt ops (o :: l) ta σ rs K :=
 RW.op (r := .eff v) hw hk hs hd h
theorem RW.load {t : TypeId} {x : Operand} {b p : Nat} {r : Row} {u v : Value} (hw : wantedT ops ta o = true) (hk : opndOk G o = true) (ho : o.op = .load t x) (hx : oper2 ta x = .pointer (some ⟨b, p, none⟩)) (hr : σ.get b = some (.row r)) (hc : r.cs[p]? = some u) (hv : varF P t [u] = some v) (hd : dstOk nt o.dst = true)
    (h : RW G P nt ops l (putO ta o.dst v) σ ((.load b p [u] v, σ) :: rs) K) : RW G P nt ops (o :: l) ta σ rs K := by
  obtain ⟨h1, h2⟩ := lop_load (P := P) ho hx hv
  refine RW.op (r := .load b p [u] v) hw hk ⟨h1, rfl, h2, r, hr, fun i y hy => ?_⟩ hd h
  cases i with
  | zero => simp at hy; subst hy; simpa using hc
  | succ i => simp at hy
theorem RW.loads {t : TypeId} {x : Operand} {b p : Nat} {r : Row} (n : Nat) {cs : List Value} {v : Value} (hw : wantedT ops ta o = true) (hk : opndOk G o = true) (ho : o.op = .load t x) (hx : oper2 ta x = .pointer (some ⟨b, p, none⟩)) (hr : σ.get b = some (.row r)) (hc : (r.cs.drop p).take n = cs) (hv : varF P t cs = some v) (hd : dstOk nt o.dst = true)
    (h : RW G P nt ops l (putO ta o.dst v) σ ((.load b p cs v, σ) :: rs) K) : RW G P nt ops (o :: l) ta σ rs K := by
  obtain ⟨h1, h2⟩ := lop_load (P := P) ho hx hv
  refine RW.op (r := .load b p cs v) hw hk ⟨h1, rfl, h2, r, hr, fun i y hy => ?_⟩ hd h
  rw [← hc, List.getElem?_take] at hy
  split at hy
  · rw [List.getElem?_drop] at hy; exact hy
  · cases hy
theorem overL_one {cs : List Value} {c : Value} {p : Nat} (h : p < cs.length) : overL cs p [c] = cs.set p c := by rw [← setR_over h, setR_eq]
theorem RW.store {t : TypeId} {a x : Operand} {b p : Nat} {r : Row} {v : Value} (hw : wantedT ops ta o = true) (hk : opndOk G o = true) (ho : o.op = .store t a x) (ha : oper2 ta a = .pointer (some ⟨b, p, none⟩)) (hb : G ≤ b) (hr : σ.get b = some (.row r)) (hx : oper2 ta x = v) (hcl : v.cells.toList = [v]) (h1 : v.oneCell' = true) (hs : sizeT P t = some 1) (hp : p < r.cs.length) (hd : dstOk nt o.dst = true)
    (h : RW G P nt ops l (putO ta o.dst undef) (σ.put b (.row ⟨r.cs.set p v, r.t, r.g⟩)) ((.eff undef, σ) :: rs) K) : RW G P nt ops (o :: l) ta σ rs K := by
  have hsz : (oper2 ta x).cells.size = 1 := by rw [hx, ← Array.length_toList, hcl]; rfl
  have he := eop_store (P := P) (G := G) ho ha hb hr (by rw [hs, hsz]) (by rw [hsz]; exact hp) (by rw [hx, ← Array.all_toList, hcl]; simp [h1])
  rw [hx, hcl, overL_one hp] at he
  exact RW.eff hw hk he hd h
theorem RW.stores {t : TypeId} {a x : Operand} {b p : Nat} {r : Row} {vs : Array Value} (hw : wantedT ops ta o = true) (hk : opndOk G o = true) (ho : o.op = .store t a x) (ha : oper2 ta a = .pointer (some ⟨b, p, none⟩)) (hb : G ≤ b) (hr : σ.get b = some (.row r)) (hx : oper2 ta x = .agg vs) (h1 : vs.toList.all (·.oneCell') = true) (hs : sizeT P t = some vs.size) (hp : p + vs.size ≤ r.cs.length) (hd : dstOk nt o.dst = true)
    (h : RW G P nt ops l (putO ta o.dst undef) (σ.put b (.row ⟨overL r.cs p vs.toList, r.t, r.g⟩)) ((.eff undef, σ) :: rs) K) : RW G P nt ops (o :: l) ta σ rs K := by
  have hcl : (oper2 ta x).cells = vs := by rw [hx]; rfl
  have he := eop_store (P := P) (G := G) ho ha hb hr (by rw [hs, hcl]) (by rw [hcl]; exact hp) (by rw [hcl, ← Array.all_toList]; exact h1)
  rw [hcl] at he
  exact RW.eff hw hk he hd h
theorem RW.idx {t e : TypeId} {s : Nat} {x ix : Operand} {b p : Nat} {sp : Option Nat} {n c : Nat} {k : IntKind} {i : Int} (hw : wantedT ops ta o = true) (hk : opndOk G o = true) (ho : o.op = .indexAddr t x ix) (hu : P.underlying t = some (.slice e)) (hs : sizeT P e = some s) (hx : oper2 ta x = .slice (some ⟨b, p, sp⟩) n c) (hi : oper2 ta ix = .int k i) (hin : 0 ≤ i ∧ i < n) (hd : dstOk nt o.dst = true)
    (h : RW G P nt ops l (putO ta o.dst (.pointer (some ⟨b, p + i.toNat * s, none⟩))) σ ((.val (.pointer (some ⟨b, p + i.toNat * s, none⟩)), σ) :: rs) K) : RW G P nt ops (o :: l) ta σ rs K :=
  RW.vop hw hk (vop_indexAddr ho (by unfold indexAddrF; rw [hi, uT_eq, hu, hx]; simp only [hs, if_pos hin])) hd h
theorem RW.append {t u : TypeId} {c : Call} {s x : Operand} {v : Value} {cmd : MCmd} (hw : wantedT ops ta o = true) (hk : opndOk G o = true) (ho : o.op = .call c) (hc : c.callee = .builtin .append) (ha : c.args = #[s, x]) (ht : c.argTypes = #[t, u]) (hs : appendF G P σ t u (oper2 ta s) (oper2 ta x) = some (v, cmd)) (hd : dstOk nt o.dst = true)
    (h : RW G P nt ops l (putO ta o.dst v) (cmd.app σ) ((.eff v, σ) :: rs) K) : RW G P nt ops (o :: l) ta σ rs K :=
  RW.eff hw hk (eop_append ho hc ha ht hs) hd h
end
inductive Sl (σ : Mem) (sz : Nat) : Value → List Value → Prop
 | nil : Sl σ sz (.slice none 0 0) []
 | some {b p n c : Nat} {sp : Option Nat} {r : Row} {xs : List Value} (hr : σ.get b = .some (.row r)) (hx : xs.length = n * sz) (hc : ∀ (i : Nat) x, xs[i]? = .some x → r.cs[p + i]? = .some x) : Sl σ sz (.slice (.some ⟨b, p, sp⟩) n c) xs
theorem Sl.push {sz : Nat} {v : Value} {xs : List Value} (h : Sl σ sz v xs) (x : Blk2) : Sl (σ.push x) sz v xs := by
 cases h with
 | nil => exact .nil
 | some hr hx hc => exact .some (get_push_old hr) hx hc
end Go.Proofs.YtjcmdifpkafdkaaDoor
namespace Go.Proofs.YtjcmdifpkafdkaaDoor
variable {P : Program} {G : Nat}

inductive Ren (f : Nat → Nat) : Value → Value → Prop
 | flat (v : Value) (h : flatV v = true) : Ren f v v
 | ptr (b o : Nat) : Ren f (.pointer (some ⟨b, o, none⟩)) (.pointer (some ⟨f b, o, none⟩))
 | slice (b o n c : Nat) (sp : Option Nat) : Ren f (.slice (some ⟨b, o, sp⟩) n c) (.slice (some ⟨f b, o, sp⟩) n c)
 | map (b : Nat) : Ren f (.map (some b)) (.map (some (f b)))
 | iface (t : TypeId) (v v' : Value) (h : Ren f v v') : Ren f (.iface t v) (.iface t v')
 | agg (cs cs' : Array Value) (hs : cs.size = cs'.size) (h : ∀ (i : Nat) v v', cs[i]? = some v → cs'[i]? = some v' → Ren f v v') : Ren f (.agg cs) (.agg cs')
 | tuple (cs cs' : Array Value) (hs : cs.size = cs'.size) (h : ∀ (i : Nat) v v', cs[i]? = some v → cs'[i]? = some v' → Ren f v v') : Ren f (.tuple cs) (.tuple cs')
 | func (g : FuncId) (a a' c c' : Array Value) (hs : a.size = a'.size) (h : ∀ (i : Nat) v v', a[i]? = some v → a'[i]? = some v' → Ren f v v') (ks : c.size = c'.size) (k : ∀ (i : Nat) v v', c[i]? = some v → c'[i]? = some v' → Ren f v v') : Ren f (.func (.func g) a c) (.func (.func g) a' c')
theorem ren_at {cs cs' : Array Value} (hs : cs.size = cs'.size) {i : Nat} {v' : Value} (e1 : cs'[i]? = some v') : ∃ v, cs[i]? = some v := by
 have := (Array.getElem?_eq_some_iff.1 e1).1
 exact ⟨cs[i], Array.getElem?_eq_getElem (by omega)⟩
theorem VRel.ren {f : Nat → Nat} {μ μ' : Mu} (hμ : ∀ b bi, μ b = some bi → μ' (f b) = some bi) {v vc : Value} (h : VRel μ v vc) : ∀ {v' : Value}, Ren f v v' → VRel μ' v' vc := by
 induction h with
 | flat v h =>
  intro v' hr
  cases hr with
  | flat _ _ => exact .flat v h
  | _ => simp [flatV] at h
 | void A c =>
  intro v' hr
  cases hr with
  | flat _ h' => simp [flatV] at h'
 | ptr b o bi h =>
  intro v' hr
  cases hr with
  | flat _ h' => simp [flatV] at h'
  | ptr _ _ => exact .ptr (f b) o bi (hμ _ _ h)
 | sliceE b o n c bi h =>
  intro v' hr
  cases hr with
  | flat _ h' => simp [flatV] at h'
  | slice _ _ _ _ _ => exact .sliceE (f b) o n c bi (hμ _ _ h)
 | sliceR b o n c sz bi h hz hs he =>
  intro v' hr
  cases hr with
  | flat _ h' => simp [flatV] at h'
  | slice _ _ _ _ _ => exact .sliceR (f b) o n c sz bi (hμ _ _ h) hz hs he
 | sliceN b o sz bi h hz hs =>
  intro v' hr
  cases hr with
  | flat _ h' => simp [flatV] at h'
  | slice _ _ _ _ _ => exact .sliceN (f b) o sz bi (hμ _ _ h) hz hs
 | sliceZ b o sz q bi h hz hs =>
  intro v' hr
  cases hr with
  | flat _ h' => simp [flatV] at h'
  | slice _ _ _ _ _ => exact .sliceZ (f b) o sz q bi (hμ _ _ h) hz hs
 | map b bi h =>
  intro v' hr
  cases hr with
  | flat _ h' => simp [flatV] at h'
  | map _ => exact .map (f b) bi (hμ _ _ h)
 | iface t v w _ ih =>
  intro v' hr
  cases hr with
  | flat _ h' => simp [flatV] at h'
  | iface _ _ u hu => exact .iface t u w (ih hu)
 | agg cs cc hs _ ih =>
  intro v' hr
  cases hr with
  | flat _ h' => simp [flatV] at h'
  | agg _ ds ht k =>
   refine .agg ds cc (ht.symm.trans hs) fun i u uc e1 e2 => ?_
   obtain ⟨x, hx⟩ := ren_at ht e1
   exact ih i x uc hx e2 (k i x u hx e1)
 | tuple cs cc hs _ ih =>
  intro v' hr
  cases hr with
  | flat _ h' => simp [flatV] at h'
  | tuple _ ds ht k =>
   refine .tuple ds cc (ht.symm.trans hs) fun i u uc e1 e2 => ?_
   obtain ⟨x, hx⟩ := ren_at ht e1
   exact ih i x uc hx e2 (k i x u hx e1)
 | yld b bi h =>
  intro v' hr
  cases hr with
  | flat _ h' => simp [flatV] at h'
 | func fn a a' c c' hf hs _ ks _ ih ik =>
  intro v' hr
  cases hr with
  | flat _ h' => simp [flatV] at h'
  | func g _ d _ d' ht k kt kk =>
   refine .func _ d a' d' c' hf (ht.symm.trans hs) (fun i u uc e1 e2 => ?_) (kt.symm.trans ks) (fun i u uc e1 e2 => ?_)
   ·obtain ⟨x, hx⟩ := ren_at ht e1
    exact ih i x uc hx e2 (k i x u hx e1)
   ·obtain ⟨x, hx⟩ := ren_at kt e1
    exact ik i x uc hx e2 (kk i x u hx e1)
def RenRow (f : Nat → Nat) (r r' : Row) : Prop := r.t = r'.t ∧ r.g = r'.g ∧ r.cs.length = r'.cs.length ∧ ∀ (i : Nat) v v', r.cs[i]? = some v → r'.cs[i]? = some v' → Ren f v v'
theorem BlkIn.ren {f : Nat → Nat} {μ μ' : Mu} {w : World} {bi : BI} {r r' : Row} (hμ : ∀ b bi, μ b = some bi → μ' (f b) = some bi) (h : BlkIn w μ bi (.row r)) (hr : RenRow f r r') : BlkIn w μ' bi (.row r') := by
 obtain ⟨h1, h2, h3, h4⟩ := hr
 obtain ⟨cc, fz, t', hc, hf, hv⟩ := h.lie
 refine ⟨h3.symm.trans h.len, cc, fz, t', hc, fun hz => ?_, fun i v' hi => ?_⟩
 ·have := hf hz
  rw [h1, h2] at this
  exact this
 ·have hlt : i < r.cs.length := by rw [h3]; exact (List.getElem?_eq_some_iff.1 hi).1
  obtain ⟨vc, g1, g2⟩ := hv i r.cs[i] (List.getElem?_eq_getElem hlt)
  exact ⟨vc, g1, g2.ren hμ (h4 i _ _ (List.getElem?_eq_getElem hlt) hi)⟩
def mv (G n0 N b : Nat) : Nat := if b < G then b else b - n0 + N
structure Moved (G n0 N : Nat) (σ1 τ τ1 : Mem) : Prop where
 next : τ1.next = N + (σ1.next - n0)
 abs : τ1.abs = τ.abs
 old : ∀ b, b < N → τ1.get b = τ.get b
 new : ∀ b x, N ≤ b → τ1.get b = some x → ∃ r r', x = .row r' ∧ σ1.get (b - N + n0) = some (.row r) ∧ RenRow (mv G n0 N) r r'
theorem SCall.moved {f : FuncId} {args : Array Value} {σ0 σ1 τ τ1 : Mem} {v v' : Value} (h : SCall G P f args σ0 v σ1) (hlow : ∀ b x, σ0.get b = some x → b < G ∧ τ.get b = some x ∧ ∃ r : Row, x = .row r ∧ ∀ c ∈ r.cs, flatV c = true) (hG0 : G ≤ σ0.next) (hno : σ0.abs = Abs.no) (ha : args.toList.all (closedV 3) = true)
    (hm : Moved G σ0.next τ.next σ1 τ τ1) (hv : Ren (mv G σ0.next τ.next) v v') : SCall G P f args τ v' τ1 := by
  have hn1 := h.1
  refine ⟨by rw [hm.next]; omega, fun μ w cargs hs hG hf hargs => ?_⟩
  obtain ⟨μ0, hμ0⟩ : ∃ μ0 : Mu, μ0 = ⟨fun b => if b < G then μ b else none, fun _ => False⟩ := ⟨_, rfl⟩
  have m0 : ∀ b, b < G → μ0 b = μ b := fun b hb => by rw [hμ0]; simp [hb]
  have m0n : ∀ b, G ≤ b → μ0 b = none := fun b hb => by rw [hμ0]; simp; omega
  have hs0 : Sim G μ0 σ0 w := by
    refine ⟨fun g hg => by rw [m0 g hg]; exact hs.glob g hg, fun b x bi hx hb => ?_, fun b b' x x' bi bi' hx hx' _ _ _ hor => ?_, fun b x bi hGb hx _ => ?_, by rw [hno, hμ0]; exact fun _ h => h, fun _ _ _ _ _ h => by rw [hμ0] at h; exact h⟩
    · obtain ⟨h1, h2, r, rfl, h3⟩ := hlow b x hx
      rw [m0 b h1] at hb
      obtain ⟨cc, fz, t', hc, hz, hcs⟩ := (hs.blk b _ bi h2 hb).lie
      refine ⟨(hs.blk b _ bi h2 hb).len, cc, fz, t', hc, hz, fun i u hu => ?_⟩
      obtain ⟨uc, g1, g2⟩ := hcs i u hu
      have hfl := h3 u (List.mem_of_getElem? hu)
      have := flatV_eq hfl g2
      subst this
      exact ⟨_, g1, .flat _ hfl⟩
    · obtain ⟨h1, _⟩ := hlow b x hx
      obtain ⟨h2, _⟩ := hlow b' x' hx'
      omega
    · obtain ⟨h1, _⟩ := hlow b x hx
      omega
  have hargs0 : ARel μ0 args cargs := ⟨hargs.1, fun i x x' h1 h2 => by
    have hcl := List.all_eq_true.1 ha x (List.mem_of_getElem? (by rw [Array.getElem?_toList]; exact h1))
    have := closedV_eq 3 _ _ hcl (hargs.2 i x x' h1 h2)
    rw [this]
    exact closedV_rel _ 3 _ hcl⟩
  refine (h.2 μ0 w cargs hs0 hG0 (fun b h1 _ => m0n b (by omega)) hargs0).mono ?_
  rintro e w' ⟨vc, μ0', rfl, hst, hvr⟩
  obtain ⟨μ', hμ'⟩ : ∃ μ' : Mu, μ' = ⟨fun b => if b < τ.next then μ b else if b < τ1.next then μ0' (b - τ.next + σ0.next) else μ b, μ.own⟩ := ⟨_, rfl⟩
  have p1 : ∀ b, b < τ.next → μ' b = μ b := fun b hb => by rw [hμ']; simp [hb]
  have p2 : ∀ b, τ.next ≤ b → b < τ1.next → μ' b = μ0' (b - τ.next + σ0.next) := fun b h1 h2 => by rw [hμ']; simp [h2]; omega
  have p3 : ∀ b, τ1.next ≤ b → μ' b = μ b := fun b hb => by
    rw [hμ']
    have : ¬ b < τ1.next := by omega
    by_cases h : b < τ.next <;> simp [h, this]
  have hext : Ext μ μ' := fun b bi hb => by
    rcases Nat.lt_or_ge b τ.next with h1 | h1
    · rw [p1 b h1]; exact hb
    · rcases Nat.lt_or_ge b τ1.next with h2 | h2
      · rw [hf b h1 h2] at hb; cases hb
      · rw [p3 b h2]; exact hb
  have hmv : ∀ b bi, μ0' b = some bi → μ' (mv G σ0.next τ.next b) = some bi := fun b bi hb => by
    unfold mv
    rcases Nat.lt_or_ge b σ0.next with h1 | h1
    · rw [hst.ext b (.inl h1)] at hb
      rcases Nat.lt_or_ge b G with h2 | h2
      · rw [if_pos h2, p1 b (by omega), ← m0 b h2]; exact hb
      · rw [m0n b h2] at hb; cases hb
    · rw [if_neg (by omega)]
      rcases Nat.lt_or_ge b σ1.next with h2 | h2
      · rw [p2 _ (by omega) (by rw [hm.next]; omega), show b - σ0.next + τ.next - τ.next + σ0.next = b by omega]; exact hb
      · rw [hst.ext b (.inr h2), m0n b (by omega)] at hb; cases hb
  have hkeep : ∀ B, B < w.heap.size → w'.heap[B]? = w.heap[B]? := fun B hB => by
    refine hst.keep B hB (by rw [hμ0]; exact fun h => h) fun b x bi hGb hx _ => ?_
    obtain ⟨h1, _⟩ := hlow b x hx
    omega
  have hnew : ∀ b x bi, τ.next ≤ b → τ1.get b = some x → μ' b = some bi → w.heap.size ≤ bi.blk := fun b x bi hb hx hbi => by
    have hlt := Mem.lt hx
    obtain ⟨r, r', _, g1, _⟩ := hm.new b x hb hx
    rw [p2 b hb hlt] at hbi
    rcases hst.new _ _ bi (by omega) g1 hbi with h1 | ⟨b0, x0, bi0, k1, k2, _⟩
    · exact h1
    · obtain ⟨h1, _⟩ := hlow b0 x0 k2
      omega
  have own2 := OwnOk.same (G := G) (σ := τ) (μ := μ) (w := w) (w' := w') (σ' := τ1) hm.abs hext (by rw [hμ']) hst.size (fun B hB _ => hkeep B hB) fun c z ci hz hc => by
    rcases Nat.lt_or_ge c τ.next with h1 | h1
    · rw [hm.old c h1] at hz
      rw [p1 c h1] at hc
      exact .inr ⟨c, z, ci, hz, hc, rfl⟩
    · exact .inl (hnew c z ci h1 hz hc)
  refine ⟨vc, μ', rfl, ⟨by rw [hm.next]; omega, fun b h1 h2 => hf b h1 h2, fun b hb => ?_, ⟨fun g hg => ?_, fun b x bi hx hbi => ?_, fun b b' x x' bi bi' hx hx' hbi hbi' e hor => ?_, fun b x bi hGb hx hbi => ?_, own2 hs.abs⟩, hst.size, hst.os, hst.tape, hst.output, fun b x bi hb hx hbi => .inl (hnew b x bi hb hx hbi), fun b x hb hx => ⟨x, by rw [← hm.old b hb]; exact hx⟩, hG, fun B hB => .inl (by rw [hμ'] at hB; exact hB), fun B hB _ _ => hkeep B hB⟩, hvr.ren hmv hv⟩
  · rcases hb with hb | hb
    · exact p1 b hb
    · exact p3 b hb
  · obtain ⟨bi, h1, h2⟩ := hs.glob g hg
    exact ⟨bi, hext _ _ h1, h2⟩
  · rcases Nat.lt_or_ge b τ.next with hb | hb
    · rw [hm.old b hb] at hx
      rw [p1 b hb] at hbi
      have k := hs.blk b x bi hx hbi
      exact k.keep (hkeep _ k.lt) hext
    · have hlt := Mem.lt hx
      obtain ⟨r, r', rfl, g1, g2⟩ := hm.new b x hb hx
      rw [p2 b hb hlt] at hbi
      exact (hst.sim.blk _ _ bi g1 hbi).ren hmv g2
  · have old : ∀ c y ci, c < τ.next → τ1.get c = some y → μ' c = some ci → ci.blk < w.heap.size := fun c y ci hc hy hci => by
      rw [hm.old c hc] at hy
      rw [p1 c hc] at hci
      exact (hs.blk c y ci hy hci).lt
    rcases Nat.lt_or_ge b τ.next with hb | hb <;> rcases Nat.lt_or_ge b' τ.next with hb' | hb'
    · rw [hm.old b hb] at hx
      rw [hm.old b' hb'] at hx'
      rw [p1 b hb] at hbi
      rw [p1 b' hb'] at hbi'
      exact hs.inj b b' x x' bi bi' hx hx' hbi hbi' e hor
    · have := old b x bi hb hx hbi
      have := hnew b' x' bi' hb' hx' hbi'
      omega
    · have := old b' x' bi' hb' hx' hbi'
      have := hnew b x bi hb hx hbi
      omega
    · obtain ⟨r, _, _, g1, _⟩ := hm.new b x hb hx
      obtain ⟨r2, _, _, g2, _⟩ := hm.new b' x' hb' hx'
      rw [p2 b hb (Mem.lt hx)] at hbi
      rw [p2 b' hb' (Mem.lt hx')] at hbi'
      have := hst.sim.inj _ _ _ _ bi bi' g1 g2 hbi hbi' e (.inl (by omega))
      omega
  · rcases Nat.lt_or_ge b τ.next with hb | hb
    · rw [hm.old b hb] at hx
      rw [p1 b hb] at hbi
      exact hs.rw_ b x bi hGb hx hbi
    · obtain ⟨r, _, _, g1, _⟩ := hm.new b x hb hx
      rw [p2 b hb (Mem.lt hx)] at hbi
      exact hst.sim.rw_ _ _ bi (by omega) g1 hbi
end Go.Proofs.YtjcmdifpkafdkaaDoor
namespace Go.Proofs.YtjcmdifpkafdkaaDoor
open Go.RowKit
variable {P : Program}

structure ARow where
 blk : Nat
 sh : Nat
 cs : List Value
noncomputable def argMem (tabs : List (Nat × List Value)) (rows : List ARow) : Mem :=
 ⟨fun b => if b < 64 then (match (rowsAt tabs).get b with | some (.b x) => some x | _ => none) else (match rows[b - 64]? with
  | some r => if r.cs = [] then none else some (.row ⟨r.cs, 0, true⟩)
  | none => none), 64 + rows.length, Abs.no⟩
noncomputable def argMu (tabs : List (Nat × List Value)) (rows : List ARow) : Mu := ⟨fun b =>
 if b < 64 then some ⟨b, 0, (match (rowsAt tabs).get b with | some (.b (.row r)) => r.cs.length | _ => 0), 0, 0⟩ else (match rows[b - 64]? with
  | some r => some ⟨r.blk, r.sh, r.cs.length, 0, 0⟩
  | none => none), fun _ => False⟩
theorem argMu_is (tabs : List (Nat × List Value)) (rows : List ARow) (b : Nat) : argMu tabs rows b = (if b < 64 then some ⟨b, 0, (match (rowsAt tabs).get b with | some (.b (.row r)) => r.cs.length | _ => 0), 0, 0⟩ else (match rows[b - 64]? with
    | some r => some ⟨r.blk, r.sh, r.cs.length, 0, 0⟩
    | none => none)) := rfl
theorem argMu_at {tabs : List (Nat × List Value)} {rows : List ARow} {k : Nat} {r : ARow} (h : rows[k]? = some r) : argMu tabs rows (64 + k) = some ⟨r.blk, r.sh, r.cs.length, 0, 0⟩ := by
 rw [argMu_is]
 rw [if_neg (by omega), show 64 + k - 64 = k by omega, h]
theorem argMu_low {tabs : List (Nat × List Value)} {rows : List ARow} {b : Nat} (h : b < 64) : ∃ bi, argMu tabs rows b = some bi ∧ bi.blk = b ∧ bi.sh = 0 := by
 rw [argMu_is]
 rw [if_pos h]
 exact ⟨_, rfl, rfl, rfl⟩
theorem argMem_at {tabs : List (Nat × List Value)} {rows : List ARow} {k : Nat} {r : ARow} (h : rows[k]? = some r) (hc : r.cs ≠ []) : (argMem tabs rows).get (64 + k) = some (.row ⟨r.cs, 0, true⟩) := by
 have hk : k < rows.length := (List.getElem?_eq_some_iff.1 h).1
 show (if 64 + k < 64 + rows.length then (if 64 + k < 64 then _ else (match rows[64 + k - 64]? with | some r => _ | none => none)) else none) = _
 rw [if_pos (by omega), if_neg (by omega), show 64 + k - 64 = k by omega, h]
 simp [hc]
theorem argMem_tab {tabs : List (Nat × List Value)} {rows : List ARow} (hn : (tabs.map (·.1)).Nodup) (hG : ∀ g cs, (g, cs) ∈ tabs → g < 64) : RowsAt tabs (argMem tabs rows) := fun g cs hm => by
 have h1 := rowsAt_at tabs hn g cs hm
 have h2 := hG g cs hm
 refine ⟨0, true, ?_⟩
 show (if g < 64 + rows.length then (if g < 64 then (match (rowsAt tabs).get g with | some (.b x) => some x | _ => none) else _) else none) = _
 rw [if_pos (by omega), if_pos h2, h1]
def ArgsLie (w : World) (μ : Mu) (rows : List ARow) : Prop := ∀ (k : Nat) (r : ARow), rows[k]? = some r → ∀ (i : Nat) v, r.cs[i]? = some v → ∃ v', w.cell? ⟨r.blk, r.sh + i, none⟩ = some v' ∧ VRel μ v v'
theorem arg_sim {tabs : List (Nat × List Value)} {rows : List ARow} {w : World} (hl : RowsLie w tabs) (_hG : ∀ g cs, (g, cs) ∈ tabs → g < 64) (ha : ArgsLie w (argMu tabs rows) rows) : Sim (64 + rows.length) (argMu tabs rows) (argMem tabs rows) w := by
 have cells : ∀ (blk sh : Nat) (cs : List Value), cs ≠ [] → (∀ (i : Nat) v, cs[i]? = some v → ∃ v', w.cell? ⟨blk, sh + i, none⟩ = some v' ∧ VRel (argMu tabs rows) v v') → RowIn w (argMu tabs rows) ⟨cs, 0, true⟩ ⟨blk, sh, cs.length, 0, 0⟩ := fun blk sh cs hne h => by
  obtain ⟨v0, hv0⟩ : ∃ v, cs[0]? = some v := by cases cs with | nil => exact absurd rfl hne | cons v _ => exact ⟨v, rfl⟩
  obtain ⟨v0', hc, _⟩ := h 0 v0 hv0
  unfold World.cell? at hc
  split at hc
  ·rename_i cc t fz hh
   refine ⟨rfl, cc, fz, t, hh, fun h => absurd h (by simp), fun i v hv => ?_⟩
   obtain ⟨v', h1, h2⟩ := h i v hv
   unfold World.cell? at h1
   simp only [hh] at h1
   exact ⟨v', by simpa using h1, h2⟩
  ·cases hc
 refine ⟨fun g hg => ?_, fun b x bi hx hm => ?_, fun b b' x x' bi bi' hx hx' _ _ _ hor => ?_, fun b x bi hGb hx _ => ?_, fun _ h => h, fun _ _ _ _ _ h => h⟩
 ·by_cases h : g < 64
  ·obtain ⟨bi, h1, h2⟩ := argMu_low (tabs := tabs) (rows := rows) h
   exact ⟨bi, h1, fun _ => h2⟩
  ·obtain ⟨r, hr⟩ : ∃ r, rows[g - 64]? = some r := ⟨_, List.getElem?_eq_getElem (by omega)⟩
   have := argMu_at (tabs := tabs) hr
   rw [show 64 + (g - 64) = g by omega] at this
   exact ⟨_, this, fun h' => absurd h' h⟩
 ·have hlt : b < 64 + rows.length := Mem.lt hx
  have hx0 : (if b < 64 then (match (rowsAt tabs).get b with | some (.b x) => some x | _ => none) else (match rows[b - 64]? with
   | some r => if r.cs = [] then none else some (Blk2.row ⟨r.cs, 0, true⟩)
   | none => none)) = some x := by
   have h1 : b < (argMem tabs rows).next := hlt
   have : (argMem tabs rows).get b = some x := hx
   unfold Mem.get at this
   rw [if_pos h1] at this
   exact this
  rw [argMu_is] at hm
  by_cases h : b < 64
  ·rw [if_pos h] at hx0 hm
   cases hm
   split at hx0
   ·rename_i y hy
    cases hx0
    obtain ⟨cs, h1, h2⟩ := rowsAt_get tabs b _ hy
    cases h2
    rw [hy]
    obtain ⟨g1, g2, g3⟩ := hl b cs h1
    exact cells b 0 cs g2 fun i v hv => ⟨v, by rw [Nat.zero_add]; exact g3 i v hv, .flat v (g1 v (List.mem_of_getElem? hv))⟩
   ·cases hx0
  ·rw [if_neg h] at hx0 hm
   cases hr : rows[b - 64]? with
   | none => rw [hr] at hm; cases hm
   | some r =>
    rw [hr] at hx0 hm
    cases hm
    simp only at hx0
    split at hx0
    ·cases hx0
    ·rename_i hne
     cases hx0
     exact cells r.blk r.sh r.cs hne (ha _ r hr)
 ·have h1 : b < 64 + rows.length := Mem.lt hx
  have h2 : b' < 64 + rows.length := Mem.lt hx'
  omega
 ·have h1 : b < 64 + rows.length := Mem.lt hx
  omega
theorem arg_calls {tabs : List (Nat × List Value)} {rows : List ARow} {w : World} {f : FuncId} {args cargs : Array Value} {v : Value} {σ' : Mem} (hl : RowsLie w tabs) (hG : ∀ g cs, (g, cs) ∈ tabs → g < 64) (ha : ArgsLie w (argMu tabs rows) rows) (hargs : ARel (argMu tabs rows) args cargs)
    (hs : SCall (64 + rows.length) P f args (argMem tabs rows) v σ') (hv : closedV 3 v = true) : Calls P f cargs w fun e w' => e = .returned v ∧ Below w.heap.size w w' := by
  have hsim := arg_sim hl hG ha
  refine (hs.2 _ w cargs hsim (Nat.le_refl _) (fun b h1 _ => ?_) hargs).mono ?_
  · have h1 : 64 + rows.length ≤ b := h1
    rw [argMu_is]
    rw [if_neg (by omega), List.getElem?_eq_none (by omega)]
  · rintro e w' ⟨vc, μ', rfl, hst, hr⟩
    refine ⟨by rw [closedV_eq 3 _ _ hv hr], hst.os, hst.tape, hst.output, hst.size, fun B hB => ?_⟩
    refine hst.keep B hB (fun h => h) fun b x bi hGb hx _ => ?_
    have h1 : b < 64 + rows.length := Mem.lt hx
    omega
end Go.Proofs.YtjcmdifpkafdkaaDoor
