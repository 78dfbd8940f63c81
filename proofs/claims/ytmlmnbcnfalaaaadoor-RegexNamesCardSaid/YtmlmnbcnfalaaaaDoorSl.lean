/-
  One operation carried out in the second memory, by a function; and that it is right. Over any program. Conditions: none.
-/
import Derived.Test.YtmlmnbcnfalaaaaDoorSt
namespace Go.Proofs.YtmlmnbcnfalaaaaDoor
variable {P : Program} {G : Nat} {nt : Nat} {o : Oper} {ρ : Operand → Value} {v : Value}

/-- At operands without addresses. -/
noncomputable def closedOp (P : Program) (o : Oper) (ρ : Operand → Value) : Option Value :=
  match o.op with
  | .select _ _ => none
  | _ => if allR (fun x => closedV 3 (ρ x)) o.op.operands.toList = true then (match pureOf P (execOp ρ o) with | some (.value v) => if closedV 3 v then some v else none | _ => none) else none
theorem closedOp_vop (h : closedOp P o ρ = some v) : VOp P o ρ v := by
  unfold closedOp at h
  split at h
  · cases h
  · rename_i hsel
    split at h
    · rename_i ha
      split at h
      · rename_i v' hp
        split at h
        · rename_i hc
          cases h
          rw [allR_eq, Array.all_toList] at ha
          exact vop_closed (fun cs b e => hsel cs b e) ha hp hc
        · cases h
      · cases h
    · cases h
def isNilV : Value → Bool
  | .pointer none | .slice none _ _ | .map none | .nilFunc | .nilIface => true
  | _ => false
theorem isNilV_flat {x : Value} (h : isNilV x = true) : flatV x = true := by
  unfold isNilV at h
  split at h <;> first | rfl | cases h
noncomputable def binNil (P : Program) (op : BinOp) (t : TypeId) (x : Value) (y : Operand) : Option Value :=
  match op, y with
  | .eql, .const nil => if isNilV nil then (eqNilF P t x nil).map .bool else none
  | .neq, .const nil => if isNilV nil then (eqNilF P t x nil).map fun b => .bool (!b) else none
  | _, _ => none
theorem binNil_vop {op : BinOp} {t t' : TypeId} {x y : Operand} (hρ : ∀ v, ρ (.const v) = v) (ho : o.op = .binOp op t x y t') (h : binNil P op t (ρ x) y = some v) : VOp P o ρ v := by
  unfold binNil at h
  split at h
  · split at h
    · rename_i hn
      simp only [Option.map_eq_some_iff] at h
      obtain ⟨b, hb, rfl⟩ := h
      exact vop_eqNil ho (.inl rfl) (hρ _) (isNilV_flat hn) hb
    · cases h
  · split at h
    · rename_i hn
      simp only [Option.map_eq_some_iff] at h
      obtain ⟨b, hb, rfl⟩ := h
      exact vop_eqNil ho (.inr rfl) (hρ _) (isNilV_flat hn) hb
    · cases h
  · cases h
/-- What an operation comes to. -/
inductive Res where
  | val (v : Value)
  | load (b off : Nat) (cs : List Value) (v : Value)
  | make (x : Blk2) (fm : Nat → Value)
  | eff (v : Value) (c : MCmd)
def rv (v : Value) : Option Res := some (.val v)
def ro : Option Value → Option Res
  | some v => some (.val v)
  | none => none
def iAnd (k : IntKind) (a b : Int) : Int := k.wrap (BitVec.ofInt k.bits a &&& BitVec.ofInt k.bits b).toNat
def iOr (k : IntKind) (a b : Int) : Int := k.wrap (BitVec.ofInt k.bits a ||| BitVec.ofInt k.bits b).toNat
def iXor (k : IntKind) (a b : Int) : Int := k.wrap (BitVec.ofInt k.bits a ^^^ BitVec.ofInt k.bits b).toNat
def iAndNot (k : IntKind) (a b : Int) : Int := k.wrap (BitVec.ofInt k.bits a &&& ~~~BitVec.ofInt k.bits b).toNat
def fastBin (op : BinOp) (k : IntKind) (a b : Int) : Option Value :=
  match op with
  | .add => some (.int k (k.wrap (a + b)))
  | .sub => some (.int k (k.wrap (a - b)))
  | .mul => some (.int k (k.wrap (a * b)))
  | .eql => some (.bool (a == b))
  | .neq => some (.bool (a != b))
  | .lss => some (.bool (a < b))
  | .leq => some (.bool (a ≤ b))
  | .gtr => some (.bool (a > b))
  | .geq => some (.bool (a ≥ b))
  | .quo => if b = 0 then none else some (.int k (k.wrap (a.tdiv b)))
  | .rem => if b = 0 then none else some (.int k (a.tmod b))
  | .and => some (.int k (iAnd k a b))
  | .or => some (.int k (iOr k a b))
  | .xor => some (.int k (iXor k a b))
  | .andNot => some (.int k (iAndNot k a b))
  | _ => none
theorem vop_fastBin {op : BinOp} {t t' : TypeId} {x y : Operand} {k : IntKind} {a b : Int} (ho : o.op = .binOp op t x y t') (hx : ρ x = .int k a) (hy : ρ y = .int k b) (h : fastBin op k a b = some v) : VOp P o ρ v := fun μ ρc hor => by
  rw [ho] at hor
  have h1 := hor x (by simp [Op.operands])
  have h2 := hor y (by simp [Op.operands])
  rw [hx] at h1
  rw [hy] at h2
  have h1 := flatV_eq rfl h1
  have h2 := flatV_eq rfl h2
  have hfl : flatV v = true := by
    unfold fastBin at h
    split at h <;> first | (cases h; rfl) | (split at h <;> cases h; rfl) | cases h
  refine ⟨v, .flat v hfl, fun w => ?_⟩
  unfold execOp
  simp only [ho, h1, h2]
  cases op <;> simp only [fastBin] at h <;> first | (cases h; simp [eqGuard, binOp, Op.intArith, Op.intCmp, Op.intBits, iAnd, iOr, iXor, iAndNot]; done) | (split at h <;> cases h <;> simp_all [eqGuard, binOp, Op.intDiv]; done) | (cases h; done)
def fastSh (op : BinOp) (k : IntKind) (a b : Int) : Option Value :=
  match b with
  | .ofNat n => (match op with
    | .shl => some (.int k (k.wrap (a * 2 ^ min n k.bits)))
    | .shr => some (.int k (a.fdiv (2 ^ min n k.bits)))
    | _ => none)
  | .negSucc _ => none
theorem vop_fastSh {op : BinOp} {t t' : TypeId} {x y : Operand} {k k' : IntKind} {a b : Int} (ho : o.op = .binOp op t x y t') (hx : ρ x = .int k a) (hy : ρ y = .int k' b) (h : fastSh op k a b = some v) : VOp P o ρ v := fun μ ρc hor => by
  rw [ho] at hor
  have h1 := hor x (by simp [Op.operands])
  have h2 := hor y (by simp [Op.operands])
  rw [hx] at h1
  rw [hy] at h2
  have g1 := flatV_eq rfl h1
  have g2 := flatV_eq rfl h2
  clear h1 h2
  unfold fastSh at h
  split at h
  · rename_i n
    have hn : ¬ ((n : Int) < 0) := by omega
    split at h
    · cases h
      refine ⟨_, .flat _ rfl, fun w => ?_⟩
      unfold execOp
      simp only [ho, g1, g2]
      simp [eqGuard, binOp, Op.shift, hn]
    · cases h
      refine ⟨_, .flat _ rfl, fun w => ?_⟩
      unfold execOp
      simp only [ho, g1, g2]
      simp [eqGuard, binOp, Op.shift, hn]
    · cases h
  · cases h
def fastUn (op : UnOp) (x : Value) : Option Value :=
  match op, x with
  | .not, .bool b => some (.bool (!b))
  | .neg, .int k n => some (.int k (k.wrap (0 - n)))
  | _, _ => none
theorem vop_fastUn {op : UnOp} {t : TypeId} {x : Operand} (ho : o.op = .unOp op t x) (h : fastUn op (ρ x) = some v) : VOp P o ρ v := fun μ ρc hor => by
  rw [ho] at hor
  have h1 := hor x (by simp [Op.operands])
  unfold fastUn at h
  split at h
  · rename_i b hx
    cases h
    rw [hx] at h1
    have h1 := flatV_eq rfl h1
    refine ⟨_, .flat _ rfl, fun w => ?_⟩
    unfold execOp
    simp [ho, h1, Op.unary]
  · rename_i k n hx
    cases h
    rw [hx] at h1
    have h1 := flatV_eq rfl h1
    refine ⟨_, .flat _ rfl, fun w => ?_⟩
    unfold execOp
    simp [ho, h1, Op.unary, Op.intArith]
  · cases h
noncomputable def sPick (ρ : Operand → Value) (c a b : Operand) : Option Res := match ρ c with | .bool t => rv (if t then ρ a else ρ b) | _ => none
noncomputable def sNil (ρ : Operand → Value) (x : Operand) : Option Res := cond (okNil (ρ x)) (rv (ρ x)) none
noncomputable def sExt (ρ : Operand → Value) (t : Operand) (i : Nat) : Option Res := match ρ t with | .tuple vs => ro (nthL vs.toList i) | _ => none
noncomputable def sMkF (ρ : Operand → Value) (fn : Fn) (f c : Array Operand) : Option Res := cond (isYield fn) none (rv (.func fn (f.map ρ) (c.map ρ)))
noncomputable def sMkI (P : Program) (ρ : Operand → Value) (t : TypeId) (x : Operand) : Option Res := match uT P t with | some d => cond (notIface d) (rv (.iface t (ρ x))) none | none => none
noncomputable def sIdx (P : Program) (o : Oper) (ρ : Operand → Value) (t : TypeId) (x ix : Operand) : Option Res := match ρ x with | .agg _ => ro (indexF P t (ρ x) (ρ ix)) | _ => ro (closedOp P o ρ)
noncomputable def sSlc3 (P : Program) (ρ : Operand → Value) (t : TypeId) (x : Operand) (lo hi mx : Option Operand) : Option Res := match hi, mx with
  | some h, some m => ro (slice3F P t (ρ x) (lo.map ρ) (ρ h) (ρ m))
  | _, _ => ro (sliceF P t (ρ x) (lo.map ρ) (hi.map ρ) (mx.map ρ))
noncomputable def sSlc (P : Program) (o : Oper) (ρ : Operand → Value) (t : TypeId) (x : Operand) (lo hi mx : Option Operand) : Option Res := match ρ x with | .string _ => ro (closedOp P o ρ) | _ => sSlc3 P ρ t x lo hi mx
noncomputable def sBin3 (P : Program) (o : Oper) (ρ : Operand → Value) : Option Value → Option Res
  | some v => rv v
  | none => ro (closedOp P o ρ)
noncomputable def sBin2 (P : Program) (o : Oper) (ρ : Operand → Value) (op : BinOp) (t : TypeId) (x y : Operand) : Option Res := match binNil P op t (ρ x) y with | some v => rv v | none => sBin3 P o ρ (ptrEq P op t (ρ x) (ρ y))
noncomputable def sBin4 (P : Program) (o : Oper) (ρ : Operand → Value) : Option Value → Option Res
  | some v => rv v
  | none => ro (closedOp P o ρ)
noncomputable def sBin1 (P : Program) (o : Oper) (ρ : Operand → Value) (r : Option Value) : Option Value → Option Res
  | some v => rv v
  | none => sBin4 P o ρ r
noncomputable def sBin (P : Program) (o : Oper) (ρ : Operand → Value) (op : BinOp) (t : TypeId) (x y : Operand) : Option Res := match ρ x with
  | .int k a => (match ρ y with
    | .int k' b => cond (k == k') (sBin1 P o ρ (fastSh op k a b) (fastBin op k a b)) (sBin4 P o ρ (fastSh op k a b))
    | _ => none)
  | _ => sBin2 P o ρ op t x y
noncomputable def sUn (P : Program) (o : Oper) (ρ : Operand → Value) (op : UnOp) (x : Operand) : Option Res := sBin4 P o ρ (fastUn op (ρ x))
noncomputable def sBld (P : Program) (ρ : Operand → Value) (t : TypeId) (ps : Array (Nat × Operand)) : Option Res := ro (buildL P t (ps.toList.map fun (i, x) => (i, ρ x)))
noncomputable def sLen (P : Program) (o : Oper) (ρ : Operand → Value) (c : Call) : Option Res := match c.args.toList, c.argTypes.toList with
  | [x], [t] => (match ρ x with | .slice _ _ _ => ro (lenF P t (ρ x)) | _ => ro (closedOp P o ρ))
  | _, _ => none
def rEff : Option (Value × MCmd) → Option Res
  | some (v, c) => some (.eff v c)
  | none => none
def rUpd : Option MCmd → Option Res
  | some c => some (.eff undef c)
  | none => none
def rLk : Option Value → Option Res
  | some v => some (.eff v .same)
  | none => none
noncomputable def sApp (G : Nat) (P : Program) (σ : Mem) (ρ : Operand → Value) (c : Call) : Option Res := match c.args.toList, c.argTypes.toList with
  | [s, x], [t, u] => rEff (appendF G P σ t u (ρ s) (ρ x))
  | _, _ => none
noncomputable def sCpy (G : Nat) (P : Program) (σ : Mem) (ρ : Operand → Value) (c : Call) : Option Res := match c.args.toList, c.argTypes.toList with
  | [d, x], [t, _] => rEff (copyF G P σ t (ρ d) (ρ x))
  | _, _ => none
noncomputable def sClr (G : Nat) (P : Program) (σ : Mem) (ρ : Operand → Value) (c : Call) : Option Res := match c.args.toList, c.argTypes.toList with
  | [x], [t] => rUpd (clearF G P σ t (ρ x))
  | _, _ => none
def rUst : Option (ByteArray × Option Nat) → Option Res
  | some (s, some b) => some (.eff (.string s) (.kill b))
  | some (s, none) => some (.eff (.string s) .same)
  | none => none
noncomputable def sUst (G : Nat) (P : Program) (σ : Mem) (ρ : Operand → Value) (c : Call) : Option Res := match c.args.toList, c.argTypes.toList with
  | [x, y], [pt, _] => rUst (ustrF G P σ pt (ρ x) (ρ y))
  | _, _ => none
noncomputable def sDat (ρ : Operand → Value) (c : Call) : Option Res := match c.args.toList with
  | [x] => ro (dataF (ρ x))
  | _ => none
noncomputable def sCap (P : Program) (_o : Oper) (ρ : Operand → Value) (c : Call) : Option Res := match c.args.toList, c.argTypes.toList with
  | [x], [t] => (match uT P t with
    | some (.slice _) => ro (capF (ρ x))
    | _ => none)
  | _, _ => none
noncomputable def sBlt (G : Nat) (P : Program) (σ : Mem) (o : Oper) (ρ : Operand → Value) (c : Call) (b : Builtin) : Option Res := match b with
  | .len => sLen P o ρ c
  | .append => sApp G P σ ρ c
  | .copy => sCpy G P σ ρ c
  | .min => ro (closedOp P o ρ)
  | .max => ro (closedOp P o ρ)
  | .clear => sClr G P σ ρ c
  | .cap => sCap P o ρ c
  | .unsafeString => sUst G P σ ρ c
  | .unsafeSliceData => sDat ρ c
  | _ => none
noncomputable def sCal (G : Nat) (P : Program) (σ : Mem) (o : Oper) (ρ : Operand → Value) (c : Call) : Option Res := match c.callee with
  | .builtin b => sBlt G P σ o ρ c b
  | .value _ => ro (closedOp P o ρ)
  | _ => none
def rLoad (b p : Nat) (cs : List Value) : Option Value → Option Res
  | some v => some (.load b p cs v)
  | none => none
noncomputable def sLd3 (P : Program) (t : TypeId) (b p : Nat) : Option Value → Option Res
  | some c => rLoad b p [c] (varF P t [c])
  | none => none
noncomputable def sLd2 (P : Program) (t : TypeId) (b p : Nat) (r : Row) : Option Nat → Option Res
  | some n => cond (Nat.beq n 1) (sLd3 P t b p (nthL r.cs p)) (cond (Nat.ble (p + n) r.cs.length) (rLoad b p ((r.cs.drop p).take n) (varF P t ((r.cs.drop p).take n))) none)
  | none => none
noncomputable def sLd1 (P : Program) (σ : Mem) (t : TypeId) (b p : Nat) : Option Res := match σ.get b with
  | some (.row r) => (match uT P t with
    | some d => sLd2 P t b p r (if isAggD d then sizeT P t else some 1)
    | none => none)
  | _ => none
noncomputable def sLd (P : Program) (σ : Mem) (ρ : Operand → Value) (t : TypeId) (x : Operand) : Option Res := match ρ x with
  | .pointer (some ⟨b, p, none⟩) => sLd1 P σ t b p
  | _ => none
def rBack (b p : Nat) (cs : List Value) : Option ByteArray → Option Res
  | some s => some (.load b p cs (.string s))
  | none => none
def rStr : Option ByteArray → Option Res
  | some s => some (.val (.string s))
  | none => none
noncomputable def sBack (P : Program) (σ : Mem) (src dst : TypeId) (b p n : Nat) : Option Res := cond (Nat.beq n 0) (rStr (backF P src dst [])) <| match σ.get b with
  | some (.row r) => cond (Nat.ble (p + n) r.cs.length) (rBack b p ((r.cs.drop p).take n) (backF P src dst ((r.cs.drop p).take n))) none
  | _ => none
noncomputable def sFwd (P : Program) (σ : Mem) (o : Oper) (ρ : Operand → Value) : Option (TypeId × List Value) → Option Res
  | some (e, cs) => some (.eff (.slice (some ⟨σ.next, 0, some 1⟩) cs.length cs.length) (.push (.row ⟨cs, e, true⟩)))
  | none => ro (closedOp P o ρ)
def rSelf (v : Value) : Option MCmd → Option Res
  | some c => some (.eff v c)
  | none => none
noncomputable def sCnv (G : Nat) (P : Program) (σ : Mem) (o : Oper) (ρ : Operand → Value) (src dst : TypeId) (x : Operand) : Option Res := match ρ x with
  | .slice (some ⟨b, p, _⟩) n _ => cond (Nat.beq src dst) (rSelf (ρ x) (selfF G P σ src dst (ρ x))) (sBack P σ src dst b p n)
  | .string s => sFwd P σ o ρ (convF P src dst s)
  | .pointer (some _) => cond (ptrF G P σ src dst (ρ x)) (some (.eff (ρ x) .same)) none
  | _ => ro (closedOp P o ρ)
noncomputable def sAlc (P : Program) (t : TypeId) : Option Res := match zeroT P t with | some z => cond (closedV 2 z) (some (.make (.row ⟨z.cells.toList, t, false⟩) fun b => .pointer (some ⟨b, 0, none⟩))) none | none => none
noncomputable def sBSl (P : Program) (ρ : Operand → Value) (t : TypeId) (len : Nat) (ps : Array (Nat × Operand)) : Option Res := match buildSliceF P t len (ps.toList.map fun (i, x) => (i, ρ x)) with | some (e, cs) => some (.make (.row ⟨cs, e, false⟩) fun b => .slice (some ⟨b, 0, none⟩) len len) | none => none
noncomputable def sMkS (P : Program) (ρ : Operand → Value) (t : TypeId) (x y : Operand) : Option Res := match makeSliceF P t (ρ x) (ρ y) with | some (e, cs, l, c) => some (.make (.row ⟨cs, e, false⟩) fun b => .slice (some ⟨b, 0, none⟩) l c) | none => none
noncomputable def sMkM : Option Operand → Option Res
  | none => some (.make (.ents [] 0) fun b => .map (some b))
  | some _ => none
noncomputable def sRng (P : Program) (ρ : Operand → Value) (t : TypeId) (x : Operand) : Option Res := match uT P t, ρ x with | some .string, .string s => some (.make (.iter s 0) fun b => .pointer (some ⟨b, 0, none⟩)) | _, _ => none
def isOne : Option Nat → Bool
  | some n => Nat.beq n 1
  | none => false
noncomputable def sSt2 (G : Nat) (P : Program) (t : TypeId) (b p : Nat) (v : Value) (r : Row) (c : Value) : List Value → Option Res
  | [] => cond (cond (Nat.ble G b) (cond (isOne (sizeT P t)) (cond (nthL r.cs p).isSome c.oneCell' false) false) false) (some (.eff undef (.put b (.row ⟨setR r.cs c p, r.t, r.g⟩)))) none
  | _ :: _ => cond (Nat.ble G b && (sizeT P t == some v.cells.size) && Nat.ble (p + v.cells.size) r.cs.length && allA (·.oneCell') v.cells) (some (.eff undef (.put b (.row ⟨overL r.cs p v.cells.toList, r.t, r.g⟩)))) none
noncomputable def sSt1 (G : Nat) (P : Program) (σ : Mem) (t : TypeId) (b p : Nat) (v : Value) : Option Res := match σ.get b with
  | some (.row r) => (match v.cells.toList with
    | [] => cond (Nat.ble G b && (sizeT P t == some v.cells.size) && Nat.ble (p + v.cells.size) r.cs.length && allA (·.oneCell') v.cells) (some (.eff undef (.put b (.row ⟨overL r.cs p v.cells.toList, r.t, r.g⟩)))) none
    | c :: cs => sSt2 G P t b p v r c cs)
  | _ => none
noncomputable def sSt (G : Nat) (P : Program) (σ : Mem) (ρ : Operand → Value) (t : TypeId) (a x : Operand) : Option Res := match ρ a with
  | .pointer (some ⟨b, p, none⟩) => sSt1 G P σ t b p (ρ x)
  | _ => none
noncomputable def sNx1 (G b : Nat) (s : ByteArray) (pos : Nat) : Option Res := cond (Nat.ble G b) (some (.eff (nextF s pos).1 (.put b (.iter s (nextF s pos).2)))) none
noncomputable def sNx (G : Nat) (σ : Mem) (ρ : Operand → Value) (it : Operand) : Bool → Option Res
  | true => (match ρ it with
    | .pointer (some ⟨b, 0, none⟩) => (match σ.get b with
      | some (.iter s pos) => sNx1 G b s pos
      | _ => none)
    | _ => none)
  | false => none
noncomputable def stepOp (G : Nat) (P : Program) (σ : Mem) (o : Oper) (ρ : Operand → Value) : Option Res :=
  match o.op with
  | .move x => rv (ρ x)
  | .assign x => rv (ρ x)
  | .pick c a b => sPick ρ c a b
  | .nilCheck x => sNil ρ x
  | .extract t i => sExt ρ t i
  | .makeFunc fn f c => sMkF ρ fn f c
  | .makeInterface t x => sMkI P ρ t x
  | .fieldAddr t x i => ro (fieldAddrF P t (ρ x) i)
  | .field t x i => ro (fieldF P t (ρ x) i)
  | .indexAddr t x ix => ro (indexAddrF P t (ρ x) (ρ ix))
  | .index t x ix => sIdx P o ρ t x ix
  | .slice t x lo hi mx => sSlc P o ρ t x lo hi mx
  | .build t ps => sBld P ρ t ps
  | .typeAssert x _ t ok => ro (assertF P (ρ x) t ok)
  | .binOp op t x y _ => sBin P o ρ op t x y
  | .unOp op _ x => sUn P o ρ op x
  | .convert src dst x => sCnv G P σ o ρ src dst x
  | .call c => sCal G P σ o ρ c
  | .load t x => sLd P σ ρ t x
  | .alloc t => sAlc P t
  | .box t x => some (.make (.row ⟨(ρ x).cells.toList, t, false⟩) fun b => .pointer (some ⟨b, 0, none⟩))
  | .buildSlice t len ps => sBSl P ρ t len ps
  | .makeSlice t x y => sMkS P ρ t x y
  | .makeMap _ r => sMkM r
  | .range t x => sRng P ρ t x
  | .store t a x => sSt G P σ ρ t a x
  | .lookup t m k ok => rLk (lookupF P σ t (ρ m) (ρ k) ok)
  | .mapUpdate t m k x => rUpd (updateF G P σ t (ρ m) (ρ k) (ρ x))
  | .insert t m k x => rUpd (updateF G P σ t (ρ m) (ρ k) (ρ x))
  | .next it s => sNx G σ ρ it s
  | _ => none
/-- What a result says. -/
def Res.Right (G : Nat) (P : Program) (σ : Mem) (o : Oper) (ρ : Operand → Value) : Res → Prop
  | .val v => VOp P o ρ v
  | .load b off cs v => LOp P o ρ b off cs v ∧ (∀ μ ρc, ORel μ ρ ρc o.op.operands → ∃ bi, μ b = some bi) ∧ ∃ r, σ.get b = some (.row r) ∧ ∀ (i : Nat) x, cs[i]? = some x → r.cs[off + i]? = some x
  | .make x fm => AOp P o ρ x fm
  | .eff v c => EOp G P o ρ σ v (c.app σ)
theorem ro_right {σ : Mem} {r : Res} {x : Option Value} (h : ro x = some r) (k : ∀ v, x = some v → VOp P o ρ v) : r.Right G P σ o ρ := by
  cases x with
  | none => cases h
  | some v => cases h; exact k v rfl
theorem two_list {α : Type} {a : Array α} {x y : α} (h : a.toList = [x, y]) : a = #[x, y] := by apply Array.ext'; simpa using h
theorem stepOp_right {σ : Mem} {r : Res} (hρ : ∀ v, ρ (.const v) = v) (h : stepOp G P σ o ρ = some r) : r.Right G P σ o ρ := by
  unfold stepOp at h
  split at h
  · rename_i x ho; cases h; exact vop_move (.inl ho)
  · rename_i x ho; cases h; exact vop_move (.inr ho)
  · rename_i c a b ho
    unfold sPick at h
    split at h
    · rename_i t hc; cases h; exact vop_pick ho hc
    · cases h
  · rename_i x ho
    unfold sNil at h
    cases hx : okNil (ρ x) with
    | false => rw [hx] at h; cases h
    | true => rw [hx] at h; cases h; exact vop_nilCheck ho hx
  · rename_i t i ho
    unfold sExt at h
    split at h
    · rename_i vs ht; exact ro_right h fun v hv => vop_extract ho ht (by rw [nthL_eq] at hv; simpa using hv)
    · cases h
  · rename_i fn f c ho
    unfold sMkF at h
    cases hy : isYield fn with
    | true => rw [hy] at h; cases h
    | false => rw [hy] at h; cases h; exact vop_makeFunc ho hy
  · rename_i t x ho
    unfold sMkI at h
    try simp only [uT_eq] at h
    split at h
    · rename_i d hd
      cases hn : notIface d with
      | false => rw [hn] at h; cases h
      | true => rw [hn] at h; cases h; exact vop_makeInterface ho hd hn
    · cases h
  · rename_i t x i ho; exact ro_right h fun v hv => vop_fieldAddr ho hv
  · rename_i t x i ho; exact ro_right h fun v hv => vop_field ho hv
  · rename_i t x ix ho; exact ro_right h fun v hv => vop_indexAddr ho hv
  · rename_i t x ix ho
    unfold sIdx at h
    split at h
    · exact ro_right h fun v hv => vop_index ho hv
    · exact ro_right h fun v hv => closedOp_vop hv
  · rename_i t x lo hi mx ho
    unfold sSlc at h
    split at h
    · exact ro_right h fun v hv => closedOp_vop hv
    · unfold sSlc3 at h
      split at h
      · exact ro_right h fun v hv => vop_slice3 ho hv
      · exact ro_right h fun v hv => vop_slice ho hv
  · rename_i t ps ho; exact ro_right h fun v hv => vop_build ho (buildL_eq hv)
  · rename_i x xt t ok ho; exact ro_right h fun v hv => vop_assert ho hv
  · rename_i op t x y t' ho
    unfold sBin at h
    split at h
    · rename_i k a hx
      split at h
      · rename_i k' b hy
        cases hk : (k == k') with
        | false =>
          rw [hk] at h
          simp only [cond_false] at h
          unfold sBin4 at h
          split at h
          · rename_i v hf; cases h; exact vop_fastSh ho hx hy hf
          · exact ro_right h fun v hv => closedOp_vop hv
        | true =>
          rw [hk] at h
          have hk' : k = k' := by simpa using hk
          subst hk'
          simp only [cond_true] at h
          unfold sBin1 at h
          split at h
          · rename_i v hf; cases h; exact vop_fastBin ho hx hy hf
          · unfold sBin4 at h
            split at h
            · rename_i v hf; cases h; exact vop_fastSh ho hx hy hf
            · exact ro_right h fun v hv => closedOp_vop hv
      · cases h
    · unfold sBin2 at h
      split at h
      · rename_i v' hb; cases h; exact binNil_vop hρ ho hb
      · unfold sBin3 at h
        split at h
        · rename_i v' hb; cases h; exact vop_ptrEq ho hb
        · exact ro_right h fun v hv => closedOp_vop hv
  · rename_i op t x ho
    unfold sUn sBin4 at h
    split at h
    · rename_i v hf; cases h; exact vop_fastUn ho hf
    · exact ro_right h fun v hv => closedOp_vop hv
  · rename_i src dst x ho
    unfold sCnv at h
    split at h
    · rename_i b p sp n c hx
      cases hsd : Nat.beq src dst with
      | true =>
        rw [hsd] at h
        simp only [cond_true] at h
        unfold rSelf at h
        split at h
        · rename_i cmd hcmd; cases h; exact eop_self ho hcmd
        · cases h
      | false =>
       rw [hsd] at h
       simp only [cond_false] at h
       unfold sBack at h
       cases hn0 : Nat.beq n 0 with
       | true =>
        rw [hn0] at h
        simp only [cond_true] at h
        obtain rfl : n = 0 := Nat.eq_of_beq_eq_true hn0
        unfold rStr at h
        split at h
        · rename_i s hs; cases h; exact vop_back0 ho hx hs
        · cases h
       | false =>
       rw [hn0] at h
       simp only [cond_false] at h
       split at h
       · rename_i r' hr
         cases hk : (Nat.ble (p + n) r'.cs.length) with
         | false => rw [hk] at h; cases h
         | true =>
           rw [hk] at h
           simp only [cond_true] at h
           have h0 : n ≠ 0 := fun e => by subst e; simp at hn0
           have hle : p + n ≤ r'.cs.length := by simpa using hk
           unfold rBack at h
           split at h
           · rename_i s hs
             cases h
             obtain ⟨h1, h2⟩ := lop_back ho hx h0 (by simp; omega) hs
             refine ⟨h1, h2, r', hr, fun i y hy => ?_⟩
             rw [List.getElem?_take] at hy
             split at hy
             · rw [List.getElem?_drop] at hy; exact hy
             · cases hy
           · cases h
       · cases h
    · rename_i s hx
      unfold sFwd at h
      split at h
      · rename_i e cs hcv; cases h; exact eop_conv ho hx hcv
      · exact ro_right h fun v hv => closedOp_vop hv
    · rename_i a hx
      cases hp : ptrF G P σ src dst (ρ x) with
      | false => rw [hx] at hp; rw [hx, hp] at h; cases h
      | true => rw [hx] at hp; rw [hx, hp] at h; cases h; rw [← hx] at hp ⊢; exact eop_ptr ho hp
    · exact ro_right h fun v hv => closedOp_vop hv
  · rename_i c ho
    unfold sCal at h
    split at h
    · rename_i b hc
      unfold sBlt at h
      split at h
      · unfold sLen at h
        split at h
        · rename_i x t ha ht
          split at h
          · exact ro_right h fun v hv => vop_len ho hc (by apply Array.ext'; simpa using ha) (by apply Array.ext'; simpa using ht) hv
          · exact ro_right h fun v hv => closedOp_vop hv
        · cases h
      · unfold sApp at h
        split at h
        · rename_i s x t u ha ht
          unfold rEff at h
          split at h
          · rename_i v cmd hap; cases h; exact eop_append ho hc (two_list ha) (two_list ht) hap
          · cases h
        · cases h
      · unfold sCpy at h
        split at h
        · rename_i d x t u ha ht
          unfold rEff at h
          split at h
          · rename_i v cmd hap; cases h; exact eop_copy ho hc (two_list ha) (two_list ht) hap
          · cases h
        · cases h
      · exact ro_right h fun v hv => closedOp_vop hv
      · exact ro_right h fun v hv => closedOp_vop hv
      · unfold sClr at h
        split at h
        · rename_i x t ha ht
          unfold rUpd at h
          split at h
          · rename_i cmd hcl; cases h; exact eop_clear ho hc (by apply Array.ext'; simpa using ha) (by apply Array.ext'; simpa using ht) hcl
          · cases h
        · cases h
      · unfold sCap at h
        try simp only [uT_eq] at h
        split at h
        · rename_i x t ha ht
          split at h
          · rename_i e hu; exact ro_right h fun v hv => vop_cap ho hc (by apply Array.ext'; simpa using ha) (by apply Array.ext'; simpa using ht) hu hv
          · cases h
        · cases h
      · unfold sUst at h
        split at h
        · rename_i x y pt it ha ht
          unfold rUst at h
          split at h
          · rename_i s b hu; cases h; exact eop_ustr ho hc (two_list ha) (two_list ht) hu
          · rename_i s hu; cases h; exact eop_ustr ho hc (two_list ha) (two_list ht) hu
          · cases h
        · cases h
      · unfold sDat at h
        split at h
        · rename_i x ha; exact ro_right h fun v hv => vop_data ho hc (by apply Array.ext'; simpa using ha) hv
        · cases h
      · cases h
    · exact ro_right h fun v hv => closedOp_vop hv
    · cases h
  · rename_i t x ho
    unfold sLd at h
    split at h
    · rename_i b p hx
      unfold sLd1 at h
      try simp only [uT_eq] at h
      split at h
      · rename_i r' hr
        split at h
        · rename_i d hd
          unfold sLd2 at h
          split at h
          · rename_i n hn
            cases hn1 : Nat.beq n 1 with
            | true =>
              rw [hn1] at h
              simp only [cond_true, nthL_eq] at h
              cases hc : r'.cs[p]? with
              | none => rw [hc] at h; cases h
              | some c =>
                rw [hc] at h
                simp only [sLd3] at h
                unfold rLoad at h
                split at h
                · rename_i v hv
                  cases h
                  obtain ⟨h1, h2⟩ := lop_load ho hx hv
                  refine ⟨h1, h2, r', hr, fun i y hy => ?_⟩
                  cases i with
                  | zero => simp at hy; subst hy; simpa using hc
                  | succ i => simp at hy
                · cases h
            | false =>
             rw [hn1] at h
             simp only [cond_false] at h
             cases hk : Nat.ble (p + n) r'.cs.length with
             | false => rw [hk] at h; cases h
             | true =>
               rw [hk] at h
               simp only [cond_true] at h
               unfold rLoad at h
               split at h
               · rename_i v hv
                 cases h
                 obtain ⟨h1, h2⟩ := lop_load ho hx hv
                 refine ⟨h1, h2, r', hr, fun i y hy => ?_⟩
                 rw [List.getElem?_take] at hy
                 split at hy
                 · rw [List.getElem?_drop] at hy; exact hy
                 · cases hy
               · cases h
          · cases h
        · cases h
      · cases h
    · cases h
  · rename_i t ho
    unfold sAlc at h
    split at h
    · rename_i z hz
      cases hc : closedV 2 z with
      | false => rw [hc] at h; cases h
      | true => rw [hc] at h; cases h; exact aop_alloc ho hz hc
    · cases h
  · rename_i t x ho; cases h; exact aop_box ho
  · rename_i t len ps ho
    unfold sBSl at h
    split at h
    · rename_i e cs hb; cases h; exact aop_buildSlice ho hb
    · cases h
  · rename_i t x y ho
    unfold sMkS at h
    split at h
    · rename_i e cs l c hb; cases h; exact aop_makeSlice ho hb
    · cases h
  · rename_i t r' ho
    cases r' with
    | none => cases h; exact aop_makeMap ho
    | some _ => cases h
  · rename_i t x ho
    unfold sRng at h
    try simp only [uT_eq] at h
    split at h
    · rename_i s hu hx; cases h; exact aop_range ho hu hx
    · cases h
  · rename_i t a x ho
    unfold sSt at h
    split at h
    · rename_i b p ha
      unfold sSt1 at h
      split at h
      · rename_i r' hr
        split at h
        · cases hk : (Nat.ble G b && (sizeT P t == some (ρ x).cells.size) && Nat.ble (p + (ρ x).cells.size) r'.cs.length && allA (·.oneCell') (ρ x).cells) with
          | false => rw [hk] at h; cases h
          | true =>
            rw [hk] at h
            cases h
            simp only [Bool.and_eq_true, beq_iff_eq] at hk
            obtain ⟨⟨⟨k1, k2⟩, k3⟩, k4⟩ := hk
            exact eop_store ho ha (by simpa using k1) hr k2 (by simpa using k3) (by rw [← allA_eq]; exact k4)
        · rename_i c cs hcs
          unfold sSt2 at h
          split at h
          · have hsz : (ρ x).cells.size = 1 := by rw [← Array.length_toList, hcs]; rfl
            cases hk1 : Nat.ble G b with
            | false => rw [hk1] at h; cases h
            | true =>
              cases hk2 : isOne (sizeT P t) with
              | false => rw [hk1, hk2] at h; cases h
              | true =>
                cases hk3 : (nthL r'.cs p).isSome with
                | false => rw [hk1, hk2, hk3] at h; cases h
                | true =>
                  cases hk4 : c.oneCell' with
                  | false => rw [hk1, hk2, hk3, hk4] at h; cases h
                  | true =>
                    rw [hk1, hk2, hk3, hk4] at h
                    cases h
                    have k2 : sizeT P t = some 1 := by
                      unfold isOne at hk2
                      split at hk2
                      · rename_i n hn; rw [hn, Nat.eq_of_beq_eq_true hk2]
                      · cases hk2
                    have k3 : p < r'.cs.length := by
                      rw [nthL_eq] at hk3
                      simpa using hk3
                    rw [setR_over k3, ← hcs]
                    refine eop_store ho ha (by simpa using hk1) hr (by rw [k2, hsz]) (by rw [hsz]; exact k3) ?_
                    rw [← Array.all_toList, hcs]
                    simp [hk4]
          · cases hk : (Nat.ble G b && (sizeT P t == some (ρ x).cells.size) && Nat.ble (p + (ρ x).cells.size) r'.cs.length && allA (·.oneCell') (ρ x).cells) with
            | false => rw [hk] at h; cases h
            | true =>
              rw [hk] at h
              cases h
              simp only [Bool.and_eq_true, beq_iff_eq] at hk
              obtain ⟨⟨⟨k1, k2⟩, k3⟩, k4⟩ := hk
              exact eop_store ho ha (by simpa using k1) hr k2 (by simpa using k3) (by rw [← allA_eq]; exact k4)
      · cases h
    · cases h
  · rename_i t m k ok ho
    unfold rLk at h
    split at h
    · rename_i v hl; cases h; exact eop_lookup ho hl
    · cases h
  · rename_i t m k x ho
    unfold rUpd at h
    split at h
    · rename_i cmd hl; cases h; exact eop_update (.inl ho) hl
    · cases h
  · rename_i t m k x ho
    unfold rUpd at h
    split at h
    · rename_i cmd hl; cases h; exact eop_update (.inr ho) hl
    · cases h
  · rename_i it s ho
    cases s with
    | false => cases h
    | true =>
      simp only [sNx] at h
      split at h
      · rename_i b hi
        split at h
        · rename_i s pos hx
          unfold sNx1 at h
          cases hb : Nat.ble G b with
          | false => rw [hb] at h; cases h
          | true => rw [hb] at h; cases h; exact eop_next ho hi (by simpa using hb) hx
        · cases h
      · cases h
  · cases h
end Go.Proofs.YtmlmnbcnfalaaaaDoor
