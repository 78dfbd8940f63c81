/-
  The operations that compute alone, in the second memory. Over any program. Conditions: none.
-/
import Derived.Test.YtmlmnbcnfalaaaaDoorSf
namespace Go.Proofs.YtmlmnbcnfalaaaaDoor
variable {P : Program} {G : Nat} {nt : Nat}

/-- What a computation that asks nothing but the program hands over. -/
def pureOf (P : Program) {α : Type} : Sem α → Option α
  | .pure a => some a
  | .program k => pureOf P (k P)
  | .mark _ k => pureOf P k
  | _ => none
theorem pureOf_run {α : Type} : ∀ (s : Sem α) (a : α), pureOf P s = some a → ∀ w, s.run P w = .ok a w
  | .pure a, b, h, w => by cases h; rfl
  | .program k, b, h, w => pureOf_run (k P) b h w
  | .mark _ k, b, h, w => pureOf_run k b h w
  | .load .., _, h, _ | .store .., _, h, _ | .new .., _, h, _ | .shape .., _, h, _ | .freeze .., _, h, _ | .frozen .., _, h, _ | .getObj .., _, h, _ | .setObj .., _, h, _ | .choose .., _, h, _ | .sys .., _, h, _ | .halt .., _, h, _ => by cases h

/-- Values without an address anywhere. -/
def closedV : Nat → Value → Bool
  | 0, v => flatV v
  | n + 1, .agg cs => allA (closedV n) cs
  | n + 1, .tuple cs => allA (closedV n) cs
  | n + 1, .iface _ v => closedV n v
  | n + 1, .func fn a c => !isYield fn && allA (closedV n) a && allA (closedV n) c
  | _ + 1, v => flatV v
theorem arr_all {p : Value → Bool} {cs : Array Value} (h : cs.all p = true) {i : Nat} {v : Value} (hi : cs[i]? = some v) : p v = true :=
  Array.all_eq_true_iff_forall_mem.1 h v (Array.mem_of_getElem? hi)
theorem closedV_rel (μ : Mu) : ∀ (n : Nat) (v : Value), closedV n v = true → VRel μ v v := by
  intro n
  induction n with
  | zero => intro v h; exact .flat v h
  | succ n ih =>
    intro v h
    cases v <;> simp only [closedV, allA_eq] at h <;> first | exact .flat _ h | skip
    · simp only [Bool.and_eq_true, Bool.not_eq_true'] at h
      exact .func _ _ _ _ _ h.1.1 rfl (fun i v v' h1 h2 => by rw [h1] at h2; cases h2; exact ih v (arr_all h.1.2 h1)) rfl (fun i v v' h1 h2 => by rw [h1] at h2; cases h2; exact ih v (arr_all h.2 h1))
    · exact .iface _ _ _ (ih _ h)
    · exact .agg _ _ rfl fun i v v' h1 h2 => by rw [h1] at h2; cases h2; exact ih v (arr_all h h1)
    · exact .tuple _ _ rfl fun i v v' h1 h2 => by rw [h1] at h2; cases h2; exact ih v (arr_all h h1)
theorem arr_eq {cs cs' : Array Value} (hs : cs.size = cs'.size) (h : ∀ (i : Nat) v v', cs[i]? = some v → cs'[i]? = some v' → v' = v) : cs' = cs := by
  apply Array.ext_getElem?
  intro i
  rcases Nat.lt_or_ge i cs.size with h1 | h1
  · have h2 : i < cs'.size := by omega
    have := h i cs[i] cs'[i] (by simp [h1]) (by simp [h2])
    simp [h1, h2, this]
  · rw [Array.getElem?_eq_none h1, Array.getElem?_eq_none (by omega)]
theorem flatV_eq {μ : Mu} {v v' : Value} (h : flatV v = true) (hr : VRel μ v v') : v' = v := by
  cases hr <;> first | rfl | cases h
theorem closedV_eq {μ : Mu} : ∀ (n : Nat) (v v' : Value), closedV n v = true → VRel μ v v' → v' = v := by
  intro n
  induction n with
  | zero => intro v v' h hr; exact flatV_eq h hr
  | succ n ih =>
    intro v v' h hr
    cases v <;> simp only [closedV, allA_eq] at h <;> first | exact flatV_eq h hr | skip
    · simp only [Bool.and_eq_true, Bool.not_eq_true'] at h
      cases hr
      · rfl
      · simp [isYield] at h
      · rename_i a' c' hf hs ha ks kc
        rw [arr_eq hs fun i v v' h1 h2 => ih v v' (arr_all h.1.2 h1) (ha i v v' h1 h2), arr_eq ks fun i v v' h1 h2 => ih v v' (arr_all h.2 h1) (kc i v v' h1 h2)]
    · cases hr
      · rfl
      · rename_i v2 hv; rw [ih _ _ h hv]
    · cases hr
      · rfl
      · rename_i c' hs hc; rw [arr_eq hs fun i v v' h1 h2 => ih v v' (arr_all h h1) (hc i v v' h1 h2)]
    · cases hr
      · rfl
      · rename_i c' hs hc; rw [arr_eq hs fun i v v' h1 h2 => ih v v' (arr_all h h1) (hc i v v' h1 h2)]
/-- Every operation that asks the program alone, at operands without addresses. -/
theorem vop_closed {o : Oper} {ρ : Operand → Value} {v : Value} {n : Nat} (hn : ∀ cs b, o.op ≠ .select cs b) (ha : o.op.operands.all (fun x => closedV n (ρ x)) = true) (h : pureOf P (execOp ρ o) = some (.value v)) (hv : closedV n v = true) : VOp P o ρ v := fun μ ρc hor => by
  have e : execOp ρc o = execOp ρ o := execOp_congr o hn fun x hx => closedV_eq n _ _ (Array.all_eq_true_iff_forall_mem.1 ha x hx) (hor x hx)
  exact ⟨v, closedV_rel μ n v hv, fun w => by rw [e]; exact pureOf_run _ _ h w⟩

section
variable {o : Oper} {ρ : Operand → Value} {v : Value}
theorem vop_move {x : Operand} (ho : o.op = .move x ∨ o.op = .assign x) : VOp P o ρ (ρ x) := fun μ ρc hor => by
  refine ⟨ρc x, hor x ?_, fun w => ?_⟩
  · rcases ho with h | h <;> rw [h] <;> simp [Op.operands]
  · unfold execOp; rcases ho with h | h <;> rw [h] <;> rfl
theorem vop_pick {c a b : Operand} {t : Bool} (ho : o.op = .pick c a b) (hc : ρ c = .bool t) : VOp P o ρ (if t then ρ a else ρ b) := fun μ ρc hor => by
  rw [ho] at hor
  have h1 := hor c (by simp [Op.operands])
  rw [hc] at h1
  have h1 := (h1.bool_iff t).2 rfl
  refine ⟨if t then ρc a else ρc b, ?_, fun w => ?_⟩
  · cases t
    · exact hor b (by simp [Op.operands])
    · exact hor a (by simp [Op.operands])
  · unfold execOp; simp [ho, h1, asBool]
def okNil : Value → Bool
  | .pointer (some _) => true
  | .func (.func _) _ _ => true
  | .func (.yield _) _ _ => true
  | .iface _ _ => true
  | _ => false
theorem vop_nilCheck {x : Operand} (ho : o.op = .nilCheck x) (hx : okNil (ρ x) = true) : VOp P o ρ (ρ x) := fun μ ρc hor => by
  rw [ho] at hor
  have h1 := hor x (by simp [Op.operands])
  refine ⟨ρc x, h1, fun w => ?_⟩
  unfold execOp
  simp only [ho]
  generalize ρ x = y at h1 hx
  generalize ρc x = z at h1
  cases h1 <;> first | (simp [okNil] at hx; done) | rfl | skip
  · rename_i h; cases y <;> simp [flatV, okNil] at h hx
    rename_i a; cases a <;> simp at h hx
  · rename_i fn _ _ _ _ _ _ _ _ _; cases fn <;> simp [okNil] at hx <;> rfl
theorem vop_makeFunc {fn : Fn} {first captured : Array Operand} (ho : o.op = .makeFunc fn first captured) (hf : isYield fn = false) : VOp P o ρ (.func fn (first.map ρ) (captured.map ρ)) := fun μ ρc hor => by
  rw [ho] at hor
  have h1 := ARel.map (μ := μ) (ρ := ρ) (ρc := ρc) (xs := first) fun x hx => hor x (by simp [Op.operands, hx])
  have h2 := ARel.map (μ := μ) (ρ := ρ) (ρc := ρc) (xs := captured) fun x hx => hor x (by simp [Op.operands, hx])
  exact ⟨_, .func fn _ _ _ _ hf h1.1 h1.2 h2.1 h2.2, fun w => by unfold execOp; simp [ho, Instr.makeFunc]⟩
def notIface : TypeDesc → Bool | .interface _ => false | _ => true
theorem vop_makeInterface {t : TypeId} {x : Operand} {d : TypeDesc} (ho : o.op = .makeInterface t x) (hd : P.underlying t = some d) (hn : notIface d = true) : VOp P o ρ (.iface t (ρ x)) := fun μ ρc hor => by
  rw [ho] at hor
  refine ⟨_, .iface t _ _ (hor x (by simp [Op.operands])), fun w => ?_⟩
  unfold execOp
  simp only [ho, Instr.makeInterface, Sem.run_bind, run_underlying hd, Result.andThen_ok]
  cases d <;> first | rfl | cases hn

theorem add_none (b o n : Nat) : (⟨b, o, none⟩ : Addr).add n = ⟨b, o + n, none⟩ := by unfold Addr.add; split <;> simp_all
/-- The size of a type, and whether it has parts. -/
noncomputable def sizeT (P : Program) (t : TypeId) : Option Nat := (iT P t).map (·.size)
theorem sizeOf_run {t : TypeId} {n : Nat} (h : sizeT P t = some n) (w : World) : (sizeOf t).run P w = .ok n w := by
  unfold sizeT at h
  try simp only [iT_eq] at h
  cases hi : P.info? t with
  | none => rw [hi] at h; cases h
  | some i => rw [hi] at h; simp at h; simp [sizeOf, typeInfo, hi, h]
def isAggD : TypeDesc → Bool | .struct _ | .array _ _ => true | _ => false
theorem isAgg_run {t : TypeId} {d : TypeDesc} (h : P.underlying t = some d) (w : World) : (isAgg t).run P w = .ok (isAggD d) w := by
  unfold isAgg
  simp only [Sem.run_bind, run_underlying h, Result.andThen_ok]
  cases d <;> rfl
noncomputable def partF (P : Program) (t : TypeId) (cs : Array Value) (off : Nat) : Option Value :=
  match uT P t with
  | none => none
  | some d => if isAggD d then (match sizeT P t with | some n => some (.agg (cs.extract off (off + n))) | none => none) else cs[off]?
theorem part_run {t : TypeId} {cs : Array Value} {off : Nat} (h : partF P t cs off = some v) (w : World) : (part t cs off).run P w = .ok v w := by
  unfold partF at h
  try simp only [uT_eq] at h
  cases hd : P.underlying t with
  | none => rw [hd] at h; cases h
  | some d =>
    rw [hd] at h
    unfold part
    simp only [Sem.run_bind, isAgg_run hd, Result.andThen_ok]
    simp only at h
    split at h
    · rename_i ha
      rw [if_pos ha]
      cases hs : sizeT P t with
      | none => rw [hs] at h; cases h
      | some n =>
        rw [hs] at h
        cases h
        simp only [Sem.run_bind, sizeOf_run hs, Result.andThen_ok]
        rfl
    · rename_i ha
      rw [if_neg ha, h]
      rfl
theorem ARel.get {μ : Mu} {cs cs' : Array Value} (h : ARel μ cs cs') {i : Nat} {v : Value} (hv : cs[i]? = some v) : ∃ v', cs'[i]? = some v' ∧ VRel μ v v' := by
  have hi : i < cs.size := (Array.getElem?_eq_some_iff.1 hv).1
  have hi' : i < cs'.size := by have := h.1; omega
  exact ⟨cs'[i], by simp [hi'], h.2 i v _ hv (by simp [hi'])⟩
theorem ARel.extract {μ : Mu} {cs cs' : Array Value} (h : ARel μ cs cs') (a b : Nat) : ARel μ (cs.extract a b) (cs'.extract a b) := by
  refine ⟨by simp [h.1], fun i v v' h1 h2 => ?_⟩
  rw [Array.getElem?_extract] at h1 h2
  split at h1
  · split at h2
    · exact h.2 _ _ _ h1 h2
    · cases h2
  · cases h1
theorem partF_rel {μ : Mu} {t : TypeId} {cs cs' : Array Value} {off : Nat} (hc : ARel μ cs cs') (h : partF P t cs off = some v) : ∃ v', partF P t cs' off = some v' ∧ VRel μ v v' := by
  unfold partF at h ⊢
  try simp only [uT_eq] at h ⊢
  cases hd : P.underlying t with
  | none => rw [hd] at h; cases h
  | some d =>
    rw [hd] at h
    simp only at h ⊢
    split at h
    · rename_i ha
      rw [if_pos ha]
      cases hs : sizeT P t with
      | none => rw [hs] at h; cases h
      | some n =>
        rw [hs] at h
        cases h
        have := hc.extract off (off + n)
        exact ⟨_, rfl, .agg _ _ this.1 this.2⟩
    · rename_i ha
      rw [if_neg ha]
      exact hc.get h
theorem VRel.agg_inv {μ : Mu} {cs : Array Value} : ∀ {v' : Value}, VRel μ (.agg cs) v' → ∃ cs', v' = .agg cs' ∧ ARel μ cs cs'
  | _, .flat _ h => by simp [flatV] at h
  | _, .agg _ cs' hs h => ⟨cs', rfl, hs, h⟩
theorem VRel.ptr_inv {μ : Mu} {b p : Nat} : ∀ {v' : Value}, VRel μ (.pointer (some ⟨b, p, none⟩)) v' → ∃ bi, μ b = some bi ∧ v' = .pointer (some ⟨bi.blk, bi.sh + p, none⟩)
  | _, .flat _ h => by simp [flatV] at h
  | _, .ptr _ _ bi h => ⟨bi, h, rfl⟩
theorem VRel.tuple_inv {μ : Mu} {cs : Array Value} : ∀ {v' : Value}, VRel μ (.tuple cs) v' → ∃ cs', v' = .tuple cs' ∧ ARel μ cs cs'
  | _, .flat _ h => by simp [flatV] at h
  | _, .tuple _ cs' hs h => ⟨cs', rfl, hs, h⟩
theorem vop_extract {t : Operand} {i : Nat} {vs : Array Value} (ho : o.op = .extract t i) (ht : ρ t = .tuple vs) (hv : vs[i]? = some v) : VOp P o ρ v := fun μ ρc hor => by
  rw [ho] at hor
  have h1 := hor t (by simp [Op.operands])
  rw [ht] at h1
  obtain ⟨cs', e, hc⟩ := h1.tuple_inv
  obtain ⟨v', h2, h3⟩ := hc.get hv
  refine ⟨v', h3, fun w => ?_⟩
  unfold execOp
  simp [ho, e, Instr.extract, h2]
noncomputable def fieldF (P : Program) (t : TypeId) (v : Value) (i : Nat) : Option Value :=
  match v, uT P t with
  | .agg cs, some (.struct fs) => match fs[i]? with | some f => partF P f.type cs f.offset | none => none
  | _, _ => none
theorem vop_field {t : TypeId} {x : Operand} {i : Nat} (ho : o.op = .field t x i) (h : fieldF P t (ρ x) i = some v) : VOp P o ρ v := fun μ ρc hor => by
  rw [ho] at hor
  have h1 := hor x (by simp [Op.operands])
  unfold fieldF at h
  try simp only [uT_eq] at h
  split at h
  · rename_i cs fs hx hu
    rw [hx] at h1
    obtain ⟨cs', e, hc⟩ := h1.agg_inv
    split at h
    · rename_i f hf
      obtain ⟨v', hp, hv⟩ := partF_rel hc h
      refine ⟨v', hv, fun w => ?_⟩
      unfold execOp
      simp only [ho, Instr.field, Sem.run_bind, run_underlying hu, Result.andThen_ok, hf, e, asAgg, Sem.run_pure, part_run hp]
    · cases h
  · cases h
noncomputable def fieldAddrF (P : Program) (t : TypeId) (v : Value) (i : Nat) : Option Value :=
  match v, uT P t with
  | .pointer (some ⟨b, p, none⟩), some (.struct fs) => match fs[i]? with
    | some f => match sizeT P f.type with | some 0 => none | some _ => some (.pointer (some ⟨b, p + f.offset, none⟩)) | none => none
    | none => none
  | _, _ => none
theorem vop_fieldAddr {t : TypeId} {x : Operand} {i : Nat} (ho : o.op = .fieldAddr t x i) (h : fieldAddrF P t (ρ x) i = some v) : VOp P o ρ v := fun μ ρc hor => by
  rw [ho] at hor
  have h1 := hor x (by simp [Op.operands])
  unfold fieldAddrF at h
  try simp only [uT_eq] at h
  split at h
  · rename_i b p fs hx hu
    rw [hx] at h1
    obtain ⟨bi, hb, e⟩ := h1.ptr_inv
    split at h
    · rename_i f hf
      split at h
      · cases h
      · rename_i n hn hs
        cases h
        refine ⟨.pointer (some ⟨bi.blk, bi.sh + (p + f.offset), none⟩), .ptr _ _ bi hb, fun w => ?_⟩
        unfold execOp
        have hn0 : ¬ n = 0 := fun e => hn (by rw [e])
        simp only [ho, Instr.fieldAt, Sem.run_bind, run_underlying hu, Result.andThen_ok, hf, e, Instr.sureAddr, Sem.run_pure, fieldPlace, sizeOf_run hs]
        simp only [hn0, if_false, Sem.run_pure, Result.andThen_ok, add_none, Nat.add_assoc]
      · cases h
    · cases h
  · cases h
theorem VRel.slice_inv {μ : Mu} {b p n c : Nat} {sp : Option Nat} : ∀ {v' : Value}, VRel μ (.slice (some ⟨b, p, sp⟩) n c) v' → ∃ bi q c', μ b = some bi ∧ v' = .slice (some ⟨bi.blk, q, none⟩) n c' ∧ c ≤ c' ∧ (n ≠ 0 → q = bi.sh + p)
  | _, .flat _ h => by simp [flatV] at h
  | _, .sliceE _ _ _ _ bi h => ⟨bi, _, _, h, rfl, Nat.le_refl _, fun _ => rfl⟩
  | _, .sliceR _ _ _ _ _ bi h _ _ _ => ⟨bi, _, _, h, rfl, by omega, fun _ => rfl⟩
  | _, .sliceN _ _ _ bi h _ _ => ⟨bi, _, _, h, rfl, by omega, fun h => absurd rfl h⟩
  | _, .sliceZ _ _ _ _ bi h _ _ => ⟨bi, _, _, h, rfl, by omega, fun h => absurd rfl h⟩
noncomputable def indexAddrF (P : Program) (t : TypeId) (x ix : Value) : Option Value :=
  match ix, uT P t, x with
  | .int _ i, some (.slice e), .slice (some ⟨b, p, _⟩) n _ => match sizeT P e with
    | some sz => if 0 ≤ i ∧ i < n then some (.pointer (some ⟨b, p + i.toNat * sz, none⟩)) else none
    | none => none
  | .int _ i, some (.array n e), .pointer (some ⟨b, p, none⟩) => match sizeT P e with
    | some sz => if 0 ≤ i ∧ i < n then some (.pointer (some ⟨b, p + i.toNat * sz, none⟩)) else none
    | none => none
  | _, _, _ => none
theorem vop_indexAddr {t : TypeId} {x ix : Operand} (ho : o.op = .indexAddr t x ix) (h : indexAddrF P t (ρ x) (ρ ix) = some v) : VOp P o ρ v := fun μ ρc hor => by
  rw [ho] at hor
  have h1 := hor x (by simp [Op.operands])
  have h2 := hor ix (by simp [Op.operands])
  unfold indexAddrF at h
  try simp only [uT_eq] at h
  split at h
  · rename_i k i e b p sp n c hi hu hx
    rw [hx] at h1
    rw [hi] at h2
    have h2 := flatV_eq rfl h2
    obtain ⟨bi, q, c', hb, e', _, hq⟩ := h1.slice_inv
    split at h
    · rename_i sz hs
      split at h
      · rename_i hin
        cases h
        have hq := hq (by omega)
        subst hq
        refine ⟨.pointer (some ⟨bi.blk, bi.sh + (p + i.toNat * sz), none⟩), .ptr _ _ bi hb, fun w => ?_⟩
        unfold execOp
        simp only [ho, Instr.indexAt, Sem.run_bind, run_underlying hu, Result.andThen_ok, h2, asIntOf, Sem.run_pure, e']
        simp only [hin, and_self, if_true, Sem.run_bind, sizeOf_run hs, Result.andThen_ok, Sem.run_pure, add_none, Nat.add_assoc]
      · cases h
    · cases h
  · rename_i k i n e b p hi hu hx
    rw [hx] at h1
    rw [hi] at h2
    have h2 := flatV_eq rfl h2
    obtain ⟨bi, hb, e'⟩ := h1.ptr_inv
    split at h
    · rename_i sz hs
      split at h
      · rename_i hin
        cases h
        refine ⟨.pointer (some ⟨bi.blk, bi.sh + (p + i.toNat * sz), none⟩), .ptr _ _ bi hb, fun w => ?_⟩
        unfold execOp
        simp only [ho, Instr.indexAt, Sem.run_bind, run_underlying hu, Result.andThen_ok, h2, asIntOf, Sem.run_pure, e', Instr.sureAddr]
        simp only [hin, and_self, if_true, Sem.run_bind, sizeOf_run hs, Result.andThen_ok, Sem.run_pure, add_none, Nat.add_assoc]
      · cases h
    · cases h
  · cases h
noncomputable def indexF (P : Program) (t : TypeId) (x ix : Value) : Option Value :=
  match ix, uT P t, x with
  | .int _ i, some (.array n e), .agg cs => match sizeT P e with
    | some sz => if 0 ≤ i ∧ i < n then partF P e cs (i.toNat * sz) else none
    | none => none
  | _, _, _ => none
theorem vop_index {t : TypeId} {x ix : Operand} (ho : o.op = .index t x ix) (h : indexF P t (ρ x) (ρ ix) = some v) : VOp P o ρ v := fun μ ρc hor => by
  rw [ho] at hor
  have h1 := hor x (by simp [Op.operands])
  have h2 := hor ix (by simp [Op.operands])
  unfold indexF at h
  try simp only [uT_eq] at h
  split at h
  · rename_i k i n e cs hi hu hx
    rw [hx] at h1
    rw [hi] at h2
    have h2 := flatV_eq rfl h2
    obtain ⟨cs', e', hc⟩ := h1.agg_inv
    split at h
    · rename_i sz hs
      split at h
      · rename_i hin
        obtain ⟨v', hp, hv⟩ := partF_rel hc h
        refine ⟨v', hv, fun w => ?_⟩
        unfold execOp
        simp only [ho, Instr.index, Sem.run_bind, run_underlying hu, Result.andThen_ok, h2, asIntOf, Sem.run_pure, e']
        simp only [hin, and_self, if_true, Sem.run_bind, sizeOf_run hs, Result.andThen_ok, part_run hp]
        try rfl
      · cases h
    · cases h
  · cases h
/-- A slice expression's bound. -/
def boundF (x : Option Value) (dflt top : Nat) : Option Nat := match x with
  | none => some dflt
  | some (.int _ i) => if 0 ≤ i ∧ i ≤ top then some i.toNat else none
  | some _ => none
theorem bound_run {x : Value} {k : IntKind} {i : Int} {top : Nat} (hx : x = .int k i) (h : 0 ≤ i ∧ i ≤ top) (c : BoundsCode) (w : World) : (Instr.sliceBound x top c).run P w = .ok i.toNat w := by
  subst hx
  unfold Instr.sliceBound
  simp [asIntOf, h]
noncomputable def sliceF (P : Program) (t : TypeId) (x : Value) (lo hi mx : Option Value) : Option Value :=
  match x, uT P t, mx with
  | .slice none 0 0, some (.slice e), none => match sizeT P e with
    | some _ => match boundF hi 0 0 with
      | some h => match boundF lo 0 h with | some _ => some (.slice none 0 0) | none => none
      | none => none
    | none => none
  | .slice (some ⟨b, p, sp⟩) n c, some (.slice e), none => match sizeT P e with
    | some sz => match boundF hi n c with
      | some h => match boundF lo 0 h with
        | some l => match sp with
          | none => some (.slice (some (if c = l then ⟨b, p, none⟩ else ⟨b, p + l * sz, none⟩)) (h - l) (c - l))
          | some s => if s = sz ∧ h ≤ c then some (.slice (some (if c = l then ⟨b, p, some s⟩ else ⟨b, p + l * sz, some s⟩)) (h - l) (c - l)) else none
        | none => none
      | none => none
    | none => none
  | .pointer (some ⟨b, p, none⟩), some (.array c e), none => match sizeT P e with
    | some sz => match boundF hi c c with
      | some h => match boundF lo 0 h with
        | some l => some (.slice (some (if c = l then ⟨b, p, none⟩ else ⟨b, p + l * sz, none⟩)) (h - l) (c - l))
        | none => none
      | none => none
    | none => none
  | _, _, _ => none
theorem boundF_rel {μ : Mu} {x x' : Option Value} (hx : ∀ y, x = some y → ∃ y', x' = some y' ∧ VRel μ y y') (hn : x = none → x' = none) {d top top' r : Nat} (ht : top ≤ top') (h : boundF x d top = some r) :
    (x = none ∧ x' = none ∧ r = d) ∨ ∃ k i, x' = some (.int k i) ∧ 0 ≤ i ∧ i ≤ top' ∧ i ≤ top ∧ i.toNat = r := by
  unfold boundF at h
  split at h
  · cases h; exact .inl ⟨rfl, hn rfl, rfl⟩
  · rename_i k i
    obtain ⟨y', e, hv⟩ := hx _ rfl
    have hv := flatV_eq rfl hv
    subst hv
    split at h
    · rename_i hb; cases h; exact .inr ⟨k, i, e, hb.1, by omega, hb.2, rfl⟩
    · cases h
  · cases h
theorem bounds_run {s : Bool} {n c h l h' : Nat} {lo hi : Option Value} (hh : (hi = none ∧ h = n) ∨ ∃ k i, hi = some (.int k i) ∧ 0 ≤ i ∧ i ≤ c ∧ i ≤ h' ∧ i.toNat = h) (hl : (lo = none ∧ l = 0) ∨ ∃ k i, lo = some (.int k i) ∧ 0 ≤ i ∧ i ≤ (h : Int) ∧ i.toNat = l) (w : World) :
    (Instr.sliceBounds s n c lo hi none).run P w = .ok (l, h, c) w := by
  unfold Instr.sliceBounds
  rcases hh with ⟨rfl, rfl⟩ | ⟨k, i, rfl, h1, h2, _, rfl⟩ <;> rcases hl with ⟨rfl, rfl⟩ | ⟨k', i', rfl, h3, h4, rfl⟩
  · simp
  · simp [bound_run rfl ⟨h3, h4⟩]
  · simp [bound_run rfl ⟨h1, h2⟩]
  · simp [bound_run rfl ⟨h1, h2⟩, bound_run (top := i.toNat) rfl ⟨h3, h4⟩]
theorem slice_run {t e : TypeId} {sz n c' h l B q : Nat} {lo hi : Option Value} (hu : P.underlying t = some (.slice e)) (hs : sizeT P e = some sz) (hb : ∀ w, (Instr.sliceBounds true n c' lo hi none).run P w = .ok (l, h, c') w) (w : World) :
    (Instr.sliceAt t (.slice (some ⟨B, q, none⟩) n c') lo hi none).run P w = .ok (.slice (some ⟨B, if c' = l then q else q + l * sz, none⟩) (h - l) (c' - l)) w := by
  simp only [Instr.sliceAt, Sem.run_bind, run_underlying hu, Result.andThen_ok, Instr.slice, hb, sizeOf_run hs, Sem.run_pure]
  split <;> simp [add_none]
theorem vop_slice {t : TypeId} {x : Operand} {lo hi mx : Option Operand} (ho : o.op = .slice t x lo hi mx) (h : sliceF P t (ρ x) (lo.map ρ) (hi.map ρ) (mx.map ρ) = some v) : VOp P o ρ v := fun μ ρc hor => by
  rw [ho] at hor
  have h1 := hor x (by simp [Op.operands])
  have hlo : ∀ y, lo.map ρ = some y → ∃ y', lo.map ρc = some y' ∧ VRel μ y y' := fun y hy => by
    cases lo with
    | none => cases hy
    | some z => cases hy; exact ⟨_, rfl, hor z (by simp [Op.operands])⟩
  have hhi : ∀ y, hi.map ρ = some y → ∃ y', hi.map ρc = some y' ∧ VRel μ y y' := fun y hy => by
    cases hi with
    | none => cases hy
    | some z => cases hy; exact ⟨_, rfl, hor z (by simp [Op.operands])⟩
  have nlo : lo.map ρ = none → lo.map ρc = none := fun e => by cases lo with | none => rfl | some z => cases e
  have nhi : hi.map ρ = none → hi.map ρc = none := fun e => by cases hi with | none => rfl | some z => cases e
  unfold sliceF at h
  try simp only [uT_eq] at h
  split at h
  · rename_i e hx hu hm
    obtain rfl : mx = none := by cases mx with | none => rfl | some z => cases hm
    rw [hx] at h1
    have h1 := flatV_eq rfl h1
    split at h
    · rename_i sz hs
      split at h
      · rename_i hh hhe
        split at h
        · rename_i l hle
          cases h
          have bh := boundF_rel hhi nhi (Nat.le_refl 0) hhe
          have bl := boundF_rel hlo nlo (Nat.le_refl hh) hle
          have hh0 : hh = 0 := by rcases bh with ⟨_, _, e⟩ | ⟨k, i, _, _, a, _, b⟩ <;> omega
          have hl0 : l = 0 := by rcases bl with ⟨_, _, e⟩ | ⟨k, i, _, _, a, _, b⟩ <;> omega
          subst hh0 hl0
          refine ⟨.slice none 0 0, .flat _ rfl, fun w => ?_⟩
          have hb := bounds_run (P := P) (s := true) (n := 0) (c := 0) (h := 0) (l := 0) (h' := 0) (lo := lo.map ρc) (hi := hi.map ρc) (bh.imp (fun ⟨_, e, _⟩ => ⟨e, rfl⟩) id) (bl.imp (fun ⟨_, e, _⟩ => ⟨e, rfl⟩) fun ⟨k, i, a, b, c, _, d⟩ => ⟨k, i, a, b, c, d⟩) w
          unfold execOp
          simp only [ho, Instr.sliceAt, Sem.run_bind, run_underlying hu, Result.andThen_ok, h1, Option.map_none, Instr.slice, hb, sizeOf_run hs]
          rfl
        · cases h
      · cases h
    · cases h
  · rename_i b p sp n c e hx hu hm
    obtain rfl : mx = none := by cases mx with | none => rfl | some z => cases hm
    rw [hx] at h1
    split at h
    · rename_i sz hs
      split at h
      · rename_i hh hhe
        split at h
        · rename_i l hle
          have bl := boundF_rel hlo nlo (Nat.le_refl hh) hle
          have hlh : l ≤ hh := by rcases bl with ⟨_, _, e⟩ | ⟨k, i, _, _, a, _, b⟩ <;> omega
          have hb : ∀ c', c ≤ c' → ∀ w, (Instr.sliceBounds true n c' (lo.map ρc) (hi.map ρc) none).run P w = .ok (l, hh, c') w := fun c' hc' w =>
            bounds_run (h' := c) ((boundF_rel hhi nhi hc' hhe).imp (fun ⟨_, e, f⟩ => ⟨e, f⟩) id) (bl.imp (fun ⟨_, e, f⟩ => ⟨e, f⟩) fun ⟨k, i, a, b, c, _, d⟩ => ⟨k, i, a, b, c, d⟩) w
          have fin : ∀ {B q c'}, c ≤ c' → ρc x = .slice (some ⟨B, q, none⟩) n c' → ∀ w, (execOp ρc o).run P w = .ok (.value (.slice (some ⟨B, if c' = l then q else q + l * sz, none⟩) (hh - l) (c' - l))) w := fun {B q c'} hc' e w => by
            unfold execOp
            simp only [ho, Sem.run_bind, e, Option.map_none, slice_run hu hs (hb c' hc'), Result.andThen_ok, Sem.run_pure]
          generalize hz : ρc x = z at h1
          split at h
          · cases h
            cases h1
            · rename_i h'; simp [flatV] at h'
            · rename_i bi hbi
              refine ⟨_, ?_, fin (Nat.le_refl _) hz⟩
              split
              · exact .sliceE _ _ _ _ bi hbi
              · rw [Nat.add_assoc]; exact .sliceE _ _ _ _ bi hbi
          · rename_i s'
            split at h
            · rename_i hsz
              obtain ⟨rfl, hhc⟩ := hsz
              cases h
              cases h1
              · rename_i h'; simp [flatV] at h'
              · rename_i bi hbi hz0 hs0 he
                refine ⟨_, ?_, fin (by omega) hz⟩
                by_cases hcl : c = l
                · obtain rfl : hh = l := by omega
                  subst hcl
                  simp only [if_true, Nat.sub_self]
                  by_cases hr : bi.r = 0
                  · rw [hr]
                    simp only [Nat.add_zero, if_true, Nat.sub_self]
                    exact .sliceZ _ _ _ _ bi hbi hz0 hs0
                  · rw [if_neg (by omega), Nat.add_assoc, he, Nat.add_sub_cancel_left]
                    exact .sliceN _ _ _ bi hbi hz0 hs0
                · rw [if_neg hcl, if_neg (by omega), Nat.add_assoc, show c + bi.r - l = (c - l) + bi.r by omega]
                  refine .sliceR _ _ _ _ _ bi hbi hz0 hs0 ?_
                  rw [Nat.add_assoc, ← Nat.add_mul, show l + (c - l) = c by omega]
                  exact he
              · rename_i bi hbi hz0 hs0
                obtain rfl : hh = 0 := by omega
                obtain rfl : l = 0 := by omega
                refine ⟨_, ?_, fin (by omega) hz⟩
                simp only [Nat.sub_zero, Nat.zero_mul, Nat.add_zero, ite_self]
                exact .sliceN _ _ _ bi hbi hz0 hs0
              · rename_i q bi hbi hz0 hs0
                obtain rfl : hh = 0 := by omega
                obtain rfl : l = 0 := by omega
                refine ⟨_, ?_, fin (by omega) hz⟩
                simp only [if_true, Nat.sub_zero]
                exact .sliceZ _ _ _ _ bi hbi hz0 hs0
            · cases h
        · cases h
      · cases h
    · cases h
  · rename_i b p c e hx hu hm
    obtain rfl : mx = none := by cases mx with | none => rfl | some z => cases hm
    rw [hx] at h1
    obtain ⟨bi, hbi, he⟩ := h1.ptr_inv
    split at h
    · rename_i sz hs
      split at h
      · rename_i hh hhe
        split at h
        · rename_i l hle
          cases h
          have bl := boundF_rel hlo nlo (Nat.le_refl hh) hle
          have hb : ∀ w, (Instr.sliceBounds false c c (lo.map ρc) (hi.map ρc) none).run P w = .ok (l, hh, c) w := fun w =>
            bounds_run (h' := c) ((boundF_rel hhi nhi (Nat.le_refl c) hhe).imp (fun ⟨_, e, f⟩ => ⟨e, f⟩) id) (bl.imp (fun ⟨_, e, f⟩ => ⟨e, f⟩) fun ⟨k, i, a, b, c, _, d⟩ => ⟨k, i, a, b, c, d⟩) w
          refine ⟨.slice (some ⟨bi.blk, if c = l then bi.sh + p else bi.sh + (p + l * sz), none⟩) (hh - l) (c - l), ?_, fun w => ?_⟩
          · split <;> exact .sliceE _ _ _ _ bi hbi
          · unfold execOp
            simp only [ho, Instr.sliceAt, Sem.run_bind, run_underlying hu, Result.andThen_ok, he, Instr.sureAddr, Option.map_none, hb, sizeOf_run hs, Sem.run_pure]
            split <;> simp [add_none, Nat.add_assoc]
        · cases h
      · cases h
    · cases h
  · cases h

/-- len of a slice or of an array behind a pointer. -/
noncomputable def lenF (P : Program) (t : TypeId) (x : Value) : Option Value :=
  match uT P t, x with
  | some (.slice _), .slice _ n _ => some (.int .i64 n)
  | _, _ => none
theorem vop_len {c : Call} {x : Operand} {t : TypeId} (ho : o.op = .call c) (hc : c.callee = .builtin .len) (ha : c.args = #[x]) (ht : c.argTypes = #[t]) (h : lenF P t (ρ x) = some v) : VOp P o ρ v := fun μ ρc hor => by
  rw [ho] at hor
  have h1 := hor x (by simp [Op.operands, Call.operands, hc, ha])
  unfold lenF at h
  try simp only [uT_eq] at h
  split at h
  · rename_i e a n cp hu hx
    cases h
    rw [hx] at h1
    have : ∃ a' c', ρc x = .slice a' n c' := by
      generalize ρc x = z at h1
      cases h1 <;> exact ⟨_, _, rfl⟩
    obtain ⟨a', c', e'⟩ := this
    refine ⟨_, .flat (.int .i64 n) rfl, fun w => ?_⟩
    unfold execOp
    simp only [ho, Sem.run_bind, resolve, hc, ha, ht, Result.andThen_ok, Sem.run_pure]
    simp [invoke, builtin, Builtin.len_, run_underlying hu, e', goInt]
  · cases h
/-- Held against nil. -/
def nilF : Value → Option Bool
  | .pointer none => some true
  | .pointer (some ⟨_, _, none⟩) => some false
  | .slice none _ _ => some true
  | .slice (some _) _ _ => some false
  | .map none => some true
  | .map (some _) => some false
  | .nilFunc => some true
  | .func _ _ _ => some false
  | .nilIface => some true
  | .iface _ _ => some false
  | _ => none
end
end Go.Proofs.YtmlmnbcnfalaaaaDoor
