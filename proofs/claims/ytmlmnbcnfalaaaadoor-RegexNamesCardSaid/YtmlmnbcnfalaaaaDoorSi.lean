/-
  Operations that read, make and write memory, in the second memory. Over any program. Conditions: none.
-/
import Derived.Test.YtmlmnbcnfalaaaaDoorSh
namespace Go.Proofs.YtmlmnbcnfalaaaaDoor
variable {P : Program} {G : Nat} {nt : Nat} {o : Oper} {ρ : Operand → Value} {v : Value}

/-- What a variable of a type holds, out of its cells. -/
noncomputable def varF (P : Program) (t : TypeId) (cs : List Value) : Option Value :=
  match uT P t with
  | none => none
  | some d => if isAggD d then (if sizeT P t = some cs.length then some (.agg cs.toArray) else none) else (match cs with | [x] => some x | _ => none)
theorem cells_of {w : World} {μ : Mu} {b off : Nat} {cs : List Value} (h : CellsIn w μ b off cs) : ∃ (bi : BI) (cs' : List Value), μ b = some bi ∧ cs'.length = cs.length ∧ (∀ (j : Nat) u, cs'[j]? = some u → w.cell? ((⟨bi.blk, bi.sh + off, none⟩ : Addr).add j) = some u) ∧ ∀ (i : Nat) x x', cs[i]? = some x → cs'[i]? = some x' → VRel μ x x' := by
  obtain ⟨bi, hb, hc⟩ := h
  refine ⟨bi, (List.range cs.length).map fun i => (w.cell? ⟨bi.blk, bi.sh + off + i, none⟩).getD undef, hb, by simp, fun j u hu => ?_, fun i x x' h1 h2 => ?_⟩
  · rw [List.getElem?_map] at hu
    rcases Nat.lt_or_ge j cs.length with hj | hj
    · rw [List.getElem?_range hj] at hu
      obtain ⟨v', hv, _⟩ := hc j cs[j] (by simp [hj])
      simp [hv] at hu
      rw [add_none, hv, hu]
    · rw [List.getElem?_eq_none (by simpa using hj)] at hu
      cases hu
  · have hi : i < cs.length := (List.getElem?_eq_some_iff.1 h1).1
    rw [List.getElem?_map, List.getElem?_range hi] at h2
    obtain ⟨v', hv, hr⟩ := hc i x h1
    simp [hv] at h2
    rw [← h2]
    exact hr
theorem loadVar_run {w : World} {t : TypeId} {a : Addr} {cs : List Value} (hv : varF P t cs = some v) (h : ∀ (j : Nat) u, cs[j]? = some u → w.cell? (a.add j) = some u) (_ha : a.spot = none) : (loadVar t a).run P w = .ok v w := by
  unfold varF at hv
  try simp only [uT_eq] at hv
  unfold loadVar
  cases hd : P.underlying t with
  | none => rw [hd] at hv; cases hv
  | some d =>
    rw [hd] at hv
    simp only [Sem.run_bind, isAgg_run hd, Result.andThen_ok]
    simp only at hv
    split at hv
    · rename_i hg
      split at hv
      · rename_i hs
        cases hv
        simp only [hg, if_true, Sem.run_bind, sizeOf_run hs, Result.andThen_ok, run_loadCells_list w a cs h]
        rfl
      · cases hv
    · rename_i hg
      split at hv
      · cases hv
        have := h 0 _ rfl
        have e : a.add 0 = a := by unfold Addr.add; simp
        rw [e] at this
        simp only [hg, Bool.false_eq_true, if_false, run_load, this]
      · cases hv
theorem varF_rel {μ : Mu} {t : TypeId} {cs cs' : List Value} (hl : cs'.length = cs.length) (hc : ∀ (i : Nat) x x', cs[i]? = some x → cs'[i]? = some x' → VRel μ x x') (hv : varF P t cs = some v) : ∃ v', varF P t cs' = some v' ∧ VRel μ v v' := by
  unfold varF at hv ⊢
  try simp only [uT_eq] at hv ⊢
  cases hd : P.underlying t with
  | none => rw [hd] at hv; cases hv
  | some d =>
    rw [hd] at hv
    simp only at hv ⊢
    split at hv
    · rename_i hg
      rw [if_pos hg]
      split at hv
      · rename_i hs
        cases hv
        rw [hl, if_pos hs]
        exact ⟨_, rfl, .agg _ _ (by simp [hl]) fun i x x' h1 h2 => hc i x x' (by simpa using h1) (by simpa using h2)⟩
      · cases hv
    · rename_i hg
      rw [if_neg hg]
      split at hv
      · cases hv
        match cs', hl with
        | [y], _ => exact ⟨y, rfl, hc 0 _ y rfl rfl⟩
      · cases hv
theorem lop_load {t : TypeId} {x : Operand} {b p : Nat} {cs : List Value} (ho : o.op = .load t x) (hx : ρ x = .pointer (some ⟨b, p, none⟩)) (hv : varF P t cs = some v) : LOp P o ρ b p cs v ∧ ∀ μ ρc, ORel μ ρ ρc o.op.operands → ∃ bi, μ b = some bi := by
  refine ⟨fun μ ρc w hor hc => ?_, fun μ ρc hor => ?_⟩
  · rw [ho] at hor
    have h1 := hor x (by simp [Op.operands])
    rw [hx] at h1
    obtain ⟨bi, hb, e⟩ := h1.ptr_inv
    obtain ⟨bi', cs', hb', hl, hcell, hrel⟩ := cells_of hc
    rw [hb] at hb'
    cases hb'
    obtain ⟨v', h2, h3⟩ := varF_rel hl hrel hv
    refine ⟨v', h3, ?_⟩
    unfold execOp
    simp only [ho, Instr.loadAt, Sem.run_bind, e, Instr.sureAddr, Sem.run_pure, Result.andThen_ok, loadVar_run h2 hcell rfl]
  · rw [ho] at hor
    have h1 := hor x (by simp [Op.operands])
    rw [hx] at h1
    obtain ⟨bi, hb, _⟩ := h1.ptr_inv
    exact ⟨bi, hb⟩
/-! ### Makes -/
theorem mk_ptr : ∀ (μ : Mu) b bi, μ b = some bi → bi.sh = 0 → VRel μ (.pointer (some ⟨b, 0, none⟩)) (.pointer (some ⟨bi.blk, 0, none⟩)) := fun μ b bi h hs => by
  have := VRel.ptr (μ := μ) b 0 bi h
  rw [hs] at this
  exact this
theorem mk_slice (n c : Nat) : ∀ (μ : Mu) b bi, μ b = some bi → bi.sh = 0 → VRel μ (.slice (some ⟨b, 0, none⟩) n c) (.slice (some ⟨bi.blk, 0, none⟩) n c) := fun μ b bi h hs => by
  have := VRel.sliceE (μ := μ) b 0 n c bi h
  rw [hs] at this
  exact this
theorem row_obj {μ : Mu} {cs : List Value} {cc : Array Value} (t : TypeId) (h : ARel μ cs.toArray cc) : ObjRel μ (.row ⟨cs, t, false⟩) (.cells cc t) := ⟨cc, rfl, by simpa using h.1.symm, fun i v hv => by
  obtain ⟨v', h1, h2⟩ := h.get (i := i) (v := v) (by simpa using hv)
  exact ⟨v', h1, h2⟩⟩
theorem aop_alloc {t : TypeId} {z : Value} (ho : o.op = .alloc t) (hz : zeroT P t = some z) (hc : closedV 2 z = true) : AOp P o ρ (.row ⟨z.cells.toList, t, false⟩) fun b => .pointer (some ⟨b, 0, none⟩) := by
  refine ⟨mk_ptr, fun μ ρc w _ => ⟨.cells z.cells t, row_obj t (by simpa using (closedV_rel μ 2 z hc).cells), ?_⟩⟩
  unfold execOp
  simp only [ho, Instr.alloc, Sem.run_bind, zero_run hz, Result.andThen_ok, newVar, newRow, run_newObj, Sem.run_pure]
  rfl
theorem aop_box {t : TypeId} {x : Operand} (ho : o.op = .box t x) : AOp P o ρ (.row ⟨(ρ x).cells.toList, t, false⟩) fun b => .pointer (some ⟨b, 0, none⟩) := by
  refine ⟨mk_ptr, fun μ ρc w hor => ⟨.cells (ρc x).cells t, row_obj t ?_, ?_⟩⟩
  · rw [ho] at hor
    simpa using (hor x (by simp [Op.operands])).cells
  · unfold execOp
    simp only [ho, Instr.box, Sem.run_bind, Result.andThen_ok, newVar, newRow, run_newObj, Sem.run_pure]
    rfl
def zerosF (z : Array Value) (n : Nat) : Array Value := (Array.range n).map (z[· % z.size]!)
theorem zeros_rel {μ : Mu} {z : Array Value} (h : ARel μ z z) (hz : 0 < z.size) (n : Nat) : ARel μ (zerosF z n) (zerosF z n) := ⟨rfl, fun i v v' h1 h2 => by
  rw [h1] at h2
  cases h2
  unfold zerosF at h1
  rw [Array.getElem?_map] at h1
  cases hr : (Array.range n)[i]? with
  | none => rw [hr] at h1; cases h1
  | some k =>
    rw [hr] at h1
    cases h1
    have hlt : k % z.size < z.size := Nat.mod_lt _ hz
    have : z[k % z.size]? = some z[k % z.size]! := by simp [hlt]
    exact h.2 _ _ _ this this⟩
noncomputable def buildSliceF (P : Program) (t : TypeId) (len : Nat) (ps : List (Nat × Value)) : Option (TypeId × List Value) :=
  match uT P t with
  | some (.slice e) => match sizeT P e, zeroT P e with
    | some s, some z => if len * s ≤ 2 ^ 24 ∧ closedV 2 z = true ∧ 0 < z.cells.size then
        (match Instr.fill (fun i => some (i * s, s)) (if len * s = 0 then #[] else zerosF z.cells (len * s)) ps with | some cs => some (e, cs.toList) | none => none) else none
    | _, _ => none
  | _ => none
theorem aop_buildSlice {t e : TypeId} {len : Nat} {ps : Array (Nat × Operand)} {cs : List Value} (ho : o.op = .buildSlice t len ps) (h : buildSliceF P t len (ps.toList.map fun (i, x) => (i, ρ x)) = some (e, cs)) : AOp P o ρ (.row ⟨cs, e, false⟩) fun b => .slice (some ⟨b, 0, none⟩) len len := by
  refine ⟨mk_slice len len, fun μ ρc w hor => ?_⟩
  rw [ho] at hor
  have hp := PRel.map (μ := μ) (ρ := ρ) (ρc := ρc) ps.toList fun p hp => hor p.2 (by simp only [Op.operands]; simp only [List.mem_toArray, List.mem_map]; exact ⟨p, hp, rfl⟩)
  unfold buildSliceF at h
  try simp only [uT_eq] at h
  split at h
  · rename_i e' hu
    split at h
    · rename_i s z hs hz
      split at h
      · rename_i hc
        obtain ⟨h1, h2, h3⟩ := hc
        split at h
        · rename_i r hr
          cases h
          have hrel : ARel μ (if len * s = 0 then #[] else zerosF z.cells (len * s)) (if len * s = 0 then #[] else zerosF z.cells (len * s)) := by
            split
            · exact ⟨rfl, by simp⟩
            · exact zeros_rel (closedV_rel μ 2 z h2).cells h3 _
          obtain ⟨r', h4, h5⟩ := fill_rel _ _ _ _ _ hp hrel hr
          refine ⟨.cells r' e, row_obj e (by simpa using h5), ?_⟩
          have hps : (ps.map fun (i, x) => (i, ρc x)).toList = ps.toList.map fun (i, x) => (i, ρc x) := by simp
          unfold execOp
          simp only [ho, Instr.buildSlice, Sem.run_bind, run_underlying hu, Result.andThen_ok, sizeOf_run hs]
          have : ¬ len * s > 2 ^ 24 := by omega
          simp only [this, if_false, Sem.run_pure]
          by_cases h0 : len * s = 0
          · simp only [h0, if_true, Sem.run_pure, Result.andThen_ok, hps, Sem.run_bind] at h4 ⊢
            have e0 : (Array.range 0).map (fun i => (#[] : Array Value)[i % (#[] : Array Value).size]!) = #[] := by simp
            rw [e0, h4]
            rfl
          · simp only [h0, if_false, Sem.run_bind, zero_run hz, Sem.run_pure, Result.andThen_ok, hps] at h4 ⊢
            unfold zerosF at h4
            rw [h4]
            rfl
        · cases h
      · cases h
    · cases h
  · cases h
/-- make of a slice. -/
noncomputable def makeSliceF (P : Program) (t : TypeId) (len cap : Value) : Option (TypeId × List Value × Nat × Nat) :=
  match uT P t, len, cap with
  | some (.slice e), .int _ l, .int _ c => match iT P e, zeroT P e with
    | some i, some z => if 0 ≤ l ∧ l ≤ c ∧ c ≤ 9223372036854775807 ∧ i.bytes * c ≤ 2 ^ 48 ∧ closedV 2 z = true ∧ 0 < z.cells.size then some (e, (if c.toNat * i.size = 0 then [] else (zerosF z.cells (c.toNat * i.size)).toList), l.toNat, c.toNat) else none
    | _, _ => none
  | _, _, _ => none
theorem wrap64_id {n : Int} (h : 0 ≤ n ∧ n ≤ 9223372036854775807) : IntKind.i64.wrap n = n := by
  simp [IntKind.wrap, IntKind.bits, IntKind.signed]
  omega
theorem aop_makeSlice {t e : TypeId} {x y : Operand} {cs : List Value} {l c : Nat} (ho : o.op = .makeSlice t x y) (h : makeSliceF P t (ρ x) (ρ y) = some (e, cs, l, c)) : AOp P o ρ (.row ⟨cs, e, false⟩) fun b => .slice (some ⟨b, 0, none⟩) l c := by
  refine ⟨mk_slice l c, fun μ ρc w hor => ?_⟩
  rw [ho] at hor
  have h1 := hor x (by simp [Op.operands])
  have h2 := hor y (by simp [Op.operands])
  unfold makeSliceF at h
  try simp only [uT_eq, iT_eq] at h
  split at h
  · rename_i e' k l' k' c' hu hx hy
    rw [hx] at h1
    rw [hy] at h2
    have h1 := flatV_eq rfl h1
    have h2 := flatV_eq rfl h2
    split at h
    · rename_i i z hi hz
      split at h
      · rename_i hc
        obtain ⟨g1, g2, g3, g4, g5, g6⟩ := hc
        cases h
        have hs : sizeT P e = some i.size := by simp [sizeT, hi]
        refine ⟨.cells (if c'.toNat * i.size = 0 then #[] else zerosF z.cells (c'.toNat * i.size)) e, row_obj e ?_, ?_⟩
        · split
          · exact ⟨rfl, by simp⟩
          · simpa using zeros_rel (closedV_rel μ 2 z g5).cells g6 _
        · unfold execOp
          have w1 := wrap64_id (n := l') ⟨g1, by omega⟩
          have w2 := wrap64_id (n := c') ⟨by omega, g3⟩
          have c1 : ¬ c' < 0 := by omega
          have c2 : ¬ (i.bytes : Int) * c' > 2 ^ 48 := by omega
          have c3 : ¬ l' < 0 := by omega
          have c4 : ¬ l' > c' := by omega
          simp only [ho, Instr.makeSlice, Sem.run_bind, run_underlying hu, Result.andThen_ok, h1, h2, asInt, asIntOf, Sem.run_pure, typeInfo, run_program, hi, w1, w2]
          simp only [c1, c2, c3, c4, decide_false, Bool.or_self, Bool.false_eq_true, if_false]
          have ar : ∀ (B : Nat) (w : World), (askRoom B).run P w = .ok () w := fun B w => by unfold askRoom; split <;> rfl
          simp only [ar, Sem.run_bind, Result.andThen_ok, sizeOf_run hs]
          by_cases h0 : c'.toNat * i.size = 0
          · simp only [h0, if_true, Sem.run_bind, Sem.run_pure, Result.andThen_ok, newRow, run_newObj]
            simp [Array.range]
          · simp only [h0, if_false, Sem.run_bind, zero_run hz, Sem.run_pure, Result.andThen_ok, newRow, run_newObj]
            rfl
      · cases h
    · cases h
  · cases h
theorem aop_makeMap {t : TypeId} (ho : o.op = .makeMap t none) : AOp P o ρ (.ents [] 0) fun b => .map (some b) := by
  refine ⟨fun μ b bi h _ => .map b bi h, fun μ ρc w _ => ⟨.map #[] 0, ⟨#[], rfl, rfl, by simp⟩, ?_⟩⟩
  unfold execOp
  simp only [ho, Instr.makeMap, Option.map_none, Sem.run_bind, run_newObj, Result.andThen_ok, Sem.run_pure]
  rfl
theorem aop_range {t : TypeId} {x : Operand} {s : ByteArray} (ho : o.op = .range t x) (hu : P.underlying t = some .string) (hx : ρ x = .string s) : AOp P o ρ (.iter s 0) fun b => .pointer (some ⟨b, 0, none⟩) := by
  refine ⟨mk_ptr, fun μ ρc w hor => ⟨.stringIter s 0, rfl, ?_⟩⟩
  rw [ho] at hor
  have h1 := hor x (by simp [Op.operands])
  rw [hx] at h1
  have h1 := flatV_eq rfl h1
  unfold execOp
  simp only [ho, Instr.range, Sem.run_bind, run_underlying hu, Result.andThen_ok, h1, Sem.run_pure, run_newObj]
  rfl
end Go.Proofs.YtmlmnbcnfalaaaaDoor
