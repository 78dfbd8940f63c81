/-
  More operations that compute alone: held against nil, built, asserted. Over any program. Conditions: none.
-/
import Derived.Test.YtmlmnbcnfalaaaaDoorSg
namespace Go.Proofs.YtmlmnbcnfalaaaaDoor
variable {P : Program} {G : Nat} {nt : Nat} {o : Oper} {ρ : Operand → Value} {v : Value}

/-- Is a value nil, and is that its type's nil? -/
noncomputable def eqNilF (P : Program) (t : TypeId) (x nil : Value) : Option Bool :=
  match uT P t, x, nil with
  | some (.pointer _), .pointer none, .pointer none => some true
  | some (.pointer _), .pointer (some _), .pointer none => some false
  | some (.slice _), .slice none _ _, .slice none _ _ => some true
  | some (.slice _), .slice (some _) _ _, .slice none _ _ => some false
  | some (.map _ _), .map none, .map none => some true
  | some (.map _ _), .map (some _), .map none => some false
  | some (.func _ _ _), .nilFunc, .nilFunc => some true
  | some (.func _ _ _), .func _ _ _, .nilFunc => some false
  | some (.interface _), .nilIface, .nilIface => some true
  | some (.interface _), .iface _ _, .nilIface => some false
  | _, _, _ => none
theorem equalIn_nil {t : TypeId} {x nil : Value} {b : Bool} (h : eqNilF P t x nil = some b) (d : Nat) (w : World) : (Op.equalIn (d + 1) t x nil).run P w = .ok b w := by
  unfold eqNilF at h
  try simp only [uT_eq] at h
  split at h <;> first | cases h | skip
  all_goals
    rename_i hu
    simp only [Op.equalIn, Sem.run_bind, run_underlying hu, Result.andThen_ok]
    rfl
theorem equal_nil {t : TypeId} {x nil : Value} {b : Bool} (h : eqNilF P t x nil = some b) (w : World) : (Op.equal t x nil).run P w = .ok b w := equalIn_nil h 9999 w
theorem eqNilF_rel {μ : Mu} {t : TypeId} {x x' nil : Value} {b : Bool} (hx : VRel μ x x') (h : eqNilF P t x nil = some b) : eqNilF P t x' nil = some b := by
  unfold eqNilF at h
  try simp only [uT_eq] at h
  split at h <;> first | cases h | skip
  all_goals (rename_i hu; cases hx <;> simp_all [eqNilF, flatV])
theorem eqGuard_nil {op : BinOp} {t : TypeId} {x : Operand} {nil a : Value} {b : Bool} (h : eqNilF P t a nil = some b) (w : World) : (eqGuard op t x (.const nil) a nil).run P w = .ok () w := by
  unfold eqGuard
  unfold eqNilF at h
  try simp only [uT_eq] at h
  split at h <;> first | cases h | skip
  all_goals (split <;> first | rfl | (simp; done))
theorem vop_eqNil {op : BinOp} {t t' : TypeId} {x : Operand} {nil : Value} {b : Bool} (ho : o.op = .binOp op t x (.const nil) t') (hop : op = .eql ∨ op = .neq) (hn : ρ (.const nil) = nil) (hfl : flatV nil = true) (h : eqNilF P t (ρ x) nil = some b) :
    VOp P o ρ (.bool (if op = .eql then b else !b)) := fun μ ρc hor => by
  have hc : ρc (.const nil) = nil := by
    have := hor (.const nil) (by rw [ho]; simp [Op.operands])
    rw [hn] at this
    exact flatV_eq hfl this
  rw [ho] at hor
  have h1 := eqNilF_rel (hor x (by simp [Op.operands])) h
  refine ⟨_, .flat _ rfl, fun w => ?_⟩
  unfold execOp
  simp only [ho, hc, Sem.run_bind, eqGuard_nil h1, Result.andThen_ok]
  have key : (binOp op t (ρc x) nil).run P w = .ok (.bool (if op = .eql then b else !b)) w := by
    have he := equal_nil h1 w
    generalize ρc x = z at h1 he
    unfold eqNilF at h1
    try simp only [uT_eq] at h1
    rcases hop with rfl | rfl
    · split at h1 <;> first | cases h1 | skip
      all_goals (simp only [binOp, Sem.run_bind, he, Result.andThen_ok]; rfl)
    · split at h1 <;> first | cases h1 | skip
      all_goals (simp only [binOp, Sem.run_bind, he, Result.andThen_ok]; rfl)
  rw [key]
  rfl

theorem VRel.cells {μ : Mu} {x x' : Value} (h : VRel μ x x') : ARel μ x.cells x'.cells := by
  have key : ARel μ #[x] #[x'] := ARel.one h
  cases h <;> first | exact key | skip
  · rename_i hf; cases x <;> first | exact key | (simp [flatV] at hf)
  · rename_i cs cs' hs hc; exact ⟨hs, hc⟩
theorem ARel.set {μ : Mu} {cs cs' : Array Value} (h : ARel μ cs cs') (i : Nat) {x x' : Value} (hx : VRel μ x x') : ARel μ (cs.setIfInBounds i x) (cs'.setIfInBounds i x') := by
  refine ⟨by simp [h.1], fun j v v' h1 h2 => ?_⟩
  by_cases hij : i = j
  · subst hij
    rw [Array.getElem?_setIfInBounds_self] at h1 h2
    split at h1
    · split at h2
      · cases h1; cases h2; exact hx
      · cases h2
    · cases h1
  · rw [Array.getElem?_setIfInBounds_ne hij] at h1 h2
    exact h.2 j v v' h1 h2
theorem ARel.foldl_set {μ : Mu} {off : Nat} : ∀ (l l' : List (Value × Nat)) (cs cs' : Array Value), ARel μ cs cs' → l.length = l'.length → (∀ (i : Nat) x x', l[i]? = some x → l'[i]? = some x' → x.2 = x'.2 ∧ VRel μ x.1 x'.1) →
    ARel μ (l.foldl (fun cs (c, j) => cs.setIfInBounds (off + j) c) cs) (l'.foldl (fun cs (c, j) => cs.setIfInBounds (off + j) c) cs')
  | [], [], cs, cs', h, _, _ => h
  | x :: l, x' :: l', cs, cs', h, hl, hv => by
    obtain ⟨h1, h2⟩ := hv 0 x x' rfl rfl
    simp only [List.foldl_cons]
    rw [← h1]
    exact ARel.foldl_set l l' _ _ (h.set _ h2) (by simpa using hl) fun i y y' a b => hv (i + 1) y y' a b
  | [], _ :: _, _, _, _, hl, _ => by simp at hl
  | _ :: _, [], _, _, _, hl, _ => by simp at hl
/-- Parts that are related. -/
def PRel (μ : Mu) : List (Nat × Value) → List (Nat × Value) → Prop
  | [], [] => True
  | (i, x) :: l, (j, y) :: l' => i = j ∧ VRel μ x y ∧ PRel μ l l'
  | _, _ => False
theorem fill_rel {μ : Mu} {place : Nat → Option (Nat × Nat)} : ∀ (ps ps' : List (Nat × Value)) (cs cs' r : Array Value), PRel μ ps ps' → ARel μ cs cs' → Instr.fill place cs ps = some r → ∃ r', Instr.fill place cs' ps' = some r' ∧ ARel μ r r'
  | [], [], cs, cs', r, _, hc, h => by cases h; exact ⟨cs', rfl, hc⟩
  | (i, x) :: l, (j, y) :: l', cs, cs', r, ⟨hij, hx, hp⟩, hc, h => by
    subst hij
    unfold Instr.fill at h ⊢
    have hxc := hx.cells
    split at h
    · cases h
    · rename_i off size hpl
      split at h
      · cases h
      · rename_i hg
        rw [hxc.1, hc.1] at hg
        simp only [hg, if_false, Bool.false_eq_true]
        refine fill_rel l l' _ _ r hp ?_ h
        rw [← Array.foldl_toList, ← Array.foldl_toList]
        refine ARel.foldl_set _ _ cs cs' hc (by simp [hxc.1]) fun k a a' h1 h2 => ?_
        rw [Array.getElem?_toList, Array.getElem?_zipIdx] at h1 h2
        cases hk : x.cells[k]? with
        | none => rw [hk] at h1; cases h1
        | some u =>
          cases hk' : y.cells[k]? with
          | none => rw [hk'] at h2; cases h2
          | some u' =>
            rw [hk] at h1
            rw [hk'] at h2
            cases h1
            cases h2
            exact ⟨rfl, hxc.2 k u u' hk hk'⟩
  | [], _ :: _, _, _, _, h, _, _ => h.elim
  | _ :: _, [], _, _, _, h, _, _ => h.elim
noncomputable def zeroT (P : Program) (t : TypeId) : Option Value := (iT P t).bind (·.zero)
theorem zero_run {t : TypeId} {z : Value} (h : zeroT P t = some z) (w : World) : (zeroValue t).run P w = .ok z w := by
  unfold zeroT at h
  try simp only [iT_eq] at h
  cases hi : P.info? t with
  | none => rw [hi] at h; cases h
  | some i => rw [hi] at h; simp at h; simp [zeroValue, typeInfo, hi, h]
def placesF (P : Program) (fs : Array Field) : Option (Array (Nat × Nat)) := pureOf P (fs.mapM fun f => do pure (f.offset, ← sizeOf f.type))
noncomputable def buildF (P : Program) (t : TypeId) (ps : List (Nat × Value)) : Option Value :=
  match zeroT P t, uT P t with
  | some z, some (.struct fs) => if closedV 2 z then (match placesF P fs with
      | some pl => (match Instr.fill (pl[·]?) z.cells ps with | some cs => some (.agg cs) | none => none)
      | none => none) else none
  | some z, some (.array _ e) => if closedV 2 z then (match sizeT P e with
      | some s => (match Instr.fill (fun i => some (i * s, s)) z.cells ps with | some cs => some (.agg cs) | none => none)
      | none => none) else none
  | _, _ => none
theorem build_run {t : TypeId} {ps : Array (Nat × Value)} (h : buildF P t ps.toList = some v) (w : World) : (Instr.build t ps).run P w = .ok v w := by
  unfold buildF at h
  try simp only [uT_eq] at h
  unfold Instr.build
  split at h
  · rename_i z fs hz hu
    split at h
    · split at h
      · rename_i pl hpl
        split at h
        · rename_i cs hcs
          cases h
          simp only [Sem.run_bind, zero_run hz, run_underlying hu, Result.andThen_ok, pureOf_run _ _ hpl, hcs]
          rfl
        · cases h
      · cases h
    · cases h
  · rename_i z n e hz hu
    split at h
    · split at h
      · rename_i s hs
        split at h
        · rename_i cs hcs
          cases h
          simp only [Sem.run_bind, zero_run hz, run_underlying hu, Result.andThen_ok, sizeOf_run hs, hcs]
          rfl
        · cases h
      · cases h
    · cases h
  · cases h
theorem buildF_rel {μ : Mu} {t : TypeId} {ps ps' : List (Nat × Value)} (hp : PRel μ ps ps') (h : buildF P t ps = some v) : ∃ v', buildF P t ps' = some v' ∧ VRel μ v v' := by
  unfold buildF at h ⊢
  try simp only [uT_eq] at h ⊢
  split at h
  · rename_i z fs hz hu
    split at h
    · rename_i hc
      split at h
      · rename_i pl hpl
        split at h
        · rename_i cs hcs
          cases h
          obtain ⟨r', h1, h2⟩ := fill_rel ps ps' _ _ _ hp (closedV_rel μ 2 z hc).cells hcs
          exact ⟨.agg r', by simp only [hc, if_true, h1], .agg _ _ h2.1 h2.2⟩
        · cases h
      · cases h
    · cases h
  · rename_i z n e hz hu
    split at h
    · rename_i hc
      split at h
      · rename_i s hs
        split at h
        · rename_i cs hcs
          cases h
          obtain ⟨r', h1, h2⟩ := fill_rel ps ps' _ _ _ hp (closedV_rel μ 2 z hc).cells hcs
          exact ⟨.agg r', by simp only [hc, if_true, h1], .agg _ _ h2.1 h2.2⟩
        · cases h
      · cases h
    · cases h
  · cases h
theorem PRel.map {μ : Mu} {ρ ρc : Operand → Value} : ∀ (ps : List (Nat × Operand)), (∀ p ∈ ps, VRel μ (ρ p.2) (ρc p.2)) → PRel μ (ps.map fun (i, x) => (i, ρ x)) (ps.map fun (i, x) => (i, ρc x))
  | [], _ => trivial
  | (i, x) :: l, h => ⟨rfl, h (i, x) (by simp), PRel.map l fun p hp => h p (by simp [hp])⟩
theorem vop_build {t : TypeId} {ps : Array (Nat × Operand)} (ho : o.op = .build t ps) (h : buildF P t (ps.toList.map fun (i, x) => (i, ρ x)) = some v) : VOp P o ρ v := fun μ ρc hor => by
  rw [ho] at hor
  have hp := PRel.map (μ := μ) (ρ := ρ) (ρc := ρc) ps.toList fun p hp => hor p.2 (by simp only [Op.operands]; simp only [List.mem_toArray, List.mem_map]; exact ⟨p, hp, rfl⟩)
  obtain ⟨v', h1, h2⟩ := buildF_rel hp h
  refine ⟨v', h2, fun w => ?_⟩
  unfold execOp
  have : ((ps.map fun (i, x) => (i, ρc x)).toList) = ps.toList.map fun (i, x) => (i, ρc x) := by simp
  simp only [ho, Sem.run_bind, build_run (ps := ps.map fun (i, x) => (i, ρc x)) (by rw [this]; exact h1), Result.andThen_ok]
  rfl

/-- A type assertion. -/
noncomputable def assertF (P : Program) (x : Value) (asserted : TypeId) (commaOk : Bool) : Option Value :=
  match uT P asserted, x with
  | some (.interface want), .iface t y => match iT P t with
    | some i => match Instr.missingMethod want i.methods with
      | none => some (if commaOk then .tuple #[.iface t y, .bool true] else .iface t y)
      | some _ => if commaOk then (match zeroT P asserted with | some z => if closedV 2 z then some (.tuple #[z, .bool false]) else none | none => none) else none
    | none => none
  | some (.interface _), _ => none
  | some _, .iface t y => if t = asserted then some (if commaOk then .tuple #[y, .bool true] else y)
    else if commaOk then (match zeroT P asserted with | some z => if closedV 2 z then some (.tuple #[z, .bool false]) else none | none => none) else none
  | some _, .nilIface => if commaOk then (match zeroT P asserted with | some z => if closedV 2 z then some (.tuple #[z, .bool false]) else none | none => none) else none
  | _, _ => none
theorem VRel.two {μ : Mu} {a a' b b' : Value} (h : VRel μ a a') (k : VRel μ b b') : VRel μ (.tuple #[a, b]) (.tuple #[a', b']) := .tuple _ _ rfl fun i v v' h1 h2 => by
  match i with
  | 0 => simp at h1 h2; rw [← h1, ← h2]; exact h
  | 1 => simp at h1 h2; rw [← h1, ← h2]; exact k
  | i + 2 => simp at h1
theorem VRel.iface_inv {μ : Mu} {t : TypeId} {x : Value} : ∀ {v' : Value}, VRel μ (.iface t x) v' → ∃ x', v' = .iface t x' ∧ VRel μ x x'
  | _, .flat _ h => by simp [flatV] at h
  | _, .iface _ _ x' h => ⟨x', rfl, h⟩
theorem vop_assert {x : Operand} {xt at_ : TypeId} {ok : Bool} (ho : o.op = .typeAssert x xt at_ ok) (h : assertF P (ρ x) at_ ok = some v) : VOp P o ρ v := fun μ ρc hor => by
  rw [ho] at hor
  have h1 := hor x (by simp [Op.operands])
  unfold assertF at h
  try simp only [uT_eq, iT_eq] at h
  split at h
  · rename_i want t y hu hx
    rw [hx] at h1
    obtain ⟨y', e, hy⟩ := h1.iface_inv
    split at h
    · rename_i i hi
      split at h
      · rename_i hm
        cases h
        refine ⟨if ok then .tuple #[.iface t y', .bool true] else .iface t y', ?_, fun w => ?_⟩
        · cases ok
          · exact .iface _ _ _ hy
          · exact .two (.iface _ _ _ hy) (.flat _ rfl)
        · unfold execOp
          simp [ho, Instr.typeAssert, run_underlying hu, e, typeInfo, hi, hm]
      · rename_i m hm
        split at h
        · rename_i hok
          split at h
          · rename_i z hz
            split at h
            · rename_i hc
              cases h
              refine ⟨.tuple #[z, .bool false], .two (closedV_rel μ 2 z hc) (.flat _ rfl), fun w => ?_⟩
              unfold execOp
              simp [ho, Instr.typeAssert, run_underlying hu, e, typeInfo, hi, hm, hok, zero_run hz]
            · cases h
          · cases h
        · cases h
    · cases h
  · cases h
  · rename_i d t y hx hu hni
    rw [hni] at h1
    obtain ⟨y', e, hy⟩ := h1.iface_inv
    split at h
    · rename_i ht
      cases h
      refine ⟨if ok then .tuple #[y', .bool true] else y', ?_, fun w => ?_⟩
      · cases ok
        · exact hy
        · exact .two hy (.flat _ rfl)
      · unfold execOp
        simp only [ho, Instr.typeAssert, Sem.run_bind, run_underlying hu, Result.andThen_ok, e]
        cases d <;> first | (rename_i ms; exact absurd rfl (hx ms)) | (simp [ht])
    · rename_i ht
      split at h
      · rename_i hok
        split at h
        · rename_i z hz
          split at h
          · rename_i hc
            cases h
            refine ⟨.tuple #[z, .bool false], .two (closedV_rel μ 2 z hc) (.flat _ rfl), fun w => ?_⟩
            unfold execOp
            simp only [ho, Instr.typeAssert, Sem.run_bind, run_underlying hu, Result.andThen_ok, e]
            cases d <;> first | (rename_i ms; exact absurd rfl (hx ms)) | (simp [ht, hok, zero_run hz])
          · cases h
        · cases h
      · cases h
  · rename_i d hx hu hni
    rw [hni] at h1
    have e := flatV_eq rfl h1
    split at h
    · rename_i hok
      split at h
      · rename_i z hz
        split at h
        · rename_i hc
          cases h
          refine ⟨.tuple #[z, .bool false], .two (closedV_rel μ 2 z hc) (.flat _ rfl), fun w => ?_⟩
          unfold execOp
          simp only [ho, Instr.typeAssert, Sem.run_bind, run_underlying hu, Result.andThen_ok, e]
          cases d <;> first | (rename_i ms; exact absurd rfl (hx ms)) | (simp [hok, zero_run hz])
        · cases h
      · cases h
    · cases h
  · cases h
end Go.Proofs.YtmlmnbcnfalaaaaDoor
