/-
  Operations that read, make and write memory, in the second memory. Over any program. Conditions: none.
  Effects on rows: stores, appends, copies, in the second memory. Over any program. Conditions: none.
  append, copy and the conversions between strings and slices, in the second memory. Over any program. Conditions: none.
  Effects besides: iteration over strings, conversions, maps, copy, methods. Over any program. Conditions: none.
  Lists by their recursors: what the kernel reckons fast. Over any program. Conditions: none.
  Builders of strings, pointers held against each other, methods called on interface values: what such an operation does in the second memory. Over any program. Conditions: none.
  One operation carried out in the second memory, by a function; and that it is right. Over any program. Conditions: none.
-/
import Derived.Test.YtjcmdifpkafdkaaDoorS1
import Derived.Laws.Append
import Derived.Laws.IdiomStrings
import Derived.Laws.BytesString
import Derived.Laws.Cover4
import Derived.Laws.Externs
import Derived.Lib.Builder
import Derived.Lib.UnsafeStr
namespace Go.Proofs.YtjcmdifpkafdkaaDoor
variable {P : Program} {G : Nat} {nt : Nat} {o : Oper} {ρ : Operand → Value} {v : Value}

noncomputable def varF (P : Program) (t : TypeId) (cs : List Value) : Option Value :=
 match uT P t with
 | none => none
 | some d => if isAggD d then (if sizeT P t = some cs.length then some (.agg cs.toArray) else none) else (match cs with | [x] => some x | _ => none)
theorem cells_of {w : World} {μ : Mu} {b off : Nat} {cs : List Value} (h : CellsIn w μ b off cs) : ∃ (bi : BI) (cs' : List Value), μ b = some bi ∧ cs'.length = cs.length ∧ (∀ (j : Nat) u, cs'[j]? = some u → w.cell? ((⟨bi.blk, bi.sh + off, none⟩ : Addr).add j) = some u) ∧ ∀ (i : Nat) x x', cs[i]? = some x → cs'[i]? = some x' → VRel μ x x' := by
 obtain ⟨bi, hb, hc⟩ := h
 refine ⟨bi, (List.range cs.length).map fun i => (w.cell? ⟨bi.blk, bi.sh + off + i, none⟩).getD undef, hb, by simp, fun j u hu => ?_, fun i x x' h1 h2 => ?_⟩
 ·rw [List.getElem?_map] at hu
  rcases Nat.lt_or_ge j cs.length with hj | hj
  ·rw [List.getElem?_range hj] at hu
   obtain ⟨v', hv, _⟩ := hc j cs[j] (by simp [hj])
   simp [hv] at hu
   rw [add_none, hv, hu]
  ·rw [List.getElem?_eq_none (by simpa using hj)] at hu
   cases hu
 ·have hi : i < cs.length := (List.getElem?_eq_some_iff.1 h1).1
  rw [List.getElem?_map, List.getElem?_range hi] at h2
  obtain ⟨v', hv, hr⟩ := hc i x h1
  simp [hv] at h2
  rw [← h2]
  exact hr
theorem loadVar_run {w : World} {t : TypeId} {a : Addr} {cs : List Value} (hv : varF P t cs = some v) (h : ∀ (j : Nat) u, cs[j]? = some u → w.cell? (a.add j) = some u) (_ha : a.spot = none) : (loadVar t a).run P w = .ok v w := by
 unfold varF at hv
 try simp only [uT_eq] at hv
 unfold loadVar
 cases hd : P.underlying t with
 | none => rw [hd] at hv; cases hv
 | some d =>
  rw [hd] at hv
  simp only [Sem.run_bind, isAgg_run hd, Result.andThen_ok]
  simp only at hv
  split at hv
  ·rename_i hg
   split at hv
   ·rename_i hs
    cases hv
    simp only [hg, if_true, Sem.run_bind, sizeOf_run hs, Result.andThen_ok, run_loadCells_list w a cs h]
    rfl
   ·cases hv
  ·rename_i hg
   split at hv
   ·cases hv
    have := h 0 _ rfl
    have e : a.add 0 = a := by unfold Addr.add; simp
    rw [e] at this
    simp only [hg, Bool.false_eq_true, if_false, run_load, this]
   ·cases hv
theorem varF_rel {μ : Mu} {t : TypeId} {cs cs' : List Value} (hl : cs'.length = cs.length) (hc : ∀ (i : Nat) x x', cs[i]? = some x → cs'[i]? = some x' → VRel μ x x') (hv : varF P t cs = some v) : ∃ v', varF P t cs' = some v' ∧ VRel μ v v' := by
 unfold varF at hv ⊢
 try simp only [uT_eq] at hv ⊢
 cases hd : P.underlying t with
 | none => rw [hd] at hv; cases hv
 | some d =>
  rw [hd] at hv
  simp only at hv ⊢
  split at hv
  ·rename_i hg
   rw [if_pos hg]
   split at hv
   ·rename_i hs
    cases hv
    rw [hl, if_pos hs]
    exact ⟨_, rfl, .agg _ _ (by simp [hl]) fun i x x' h1 h2 => hc i x x' (by simpa using h1) (by simpa using h2)⟩
   ·cases hv
  ·rename_i hg
   rw [if_neg hg]
   split at hv
   ·cases hv
    match cs', hl with
    | [y], _ => exact ⟨y, rfl, hc 0 _ y rfl rfl⟩
   ·cases hv
theorem lop_load {t : TypeId} {x : Operand} {b p : Nat} {cs : List Value} (ho : o.op = .load t x) (hx : ρ x = .pointer (some ⟨b, p, none⟩)) (hv : varF P t cs = some v) : LOp P o ρ b p cs v ∧ ∀ μ ρc, ORel μ ρ ρc o.op.operands → ∃ bi, μ b = some bi := by
 refine ⟨fun μ ρc w hor hc => ?_, fun μ ρc hor => ?_⟩
 ·rw [ho] at hor
  have h1 := hor x (by simp [Op.operands])
  rw [hx] at h1
  obtain ⟨bi, hb, e⟩ := h1.ptr_inv
  obtain ⟨bi', cs', hb', hl, hcell, hrel⟩ := cells_of hc
  rw [hb] at hb'
  cases hb'
  obtain ⟨v', h2, h3⟩ := varF_rel hl hrel hv
  refine ⟨v', h3, ?_⟩
  unfold execOp
  simp only [ho, Instr.loadAt, Sem.run_bind, e, Instr.sureAddr, Sem.run_pure, Result.andThen_ok, loadVar_run h2 hcell rfl]
 ·rw [ho] at hor
  have h1 := hor x (by simp [Op.operands])
  rw [hx] at h1
  obtain ⟨bi, hb, _⟩ := h1.ptr_inv
  exact ⟨bi, hb⟩
/-! ### Makes -/
theorem mk_ptr : ∀ (μ : Mu) b bi, μ b = some bi → bi.sh = 0 → VRel μ (.pointer (some ⟨b, 0, none⟩)) (.pointer (some ⟨bi.blk, 0, none⟩)) := fun μ b bi h hs => by
 have := VRel.ptr (μ := μ) b 0 bi h
 rw [hs] at this
 exact this
theorem mk_slice (n c : Nat) : ∀ (μ : Mu) b bi, μ b = some bi → bi.sh = 0 → VRel μ (.slice (some ⟨b, 0, none⟩) n c) (.slice (some ⟨bi.blk, 0, none⟩) n c) := fun μ b bi h hs => by
 have := VRel.sliceE (μ := μ) b 0 n c bi h
 rw [hs] at this
 exact this
theorem row_obj {μ : Mu} {cs : List Value} {cc : Array Value} (t : TypeId) (h : ARel μ cs.toArray cc) : ObjRel μ (.row ⟨cs, t, false⟩) (.cells cc t) := ⟨cc, rfl, by simpa using h.1.symm, fun i v hv => by
 obtain ⟨v', h1, h2⟩ := h.get (i := i) (v := v) (by simpa using hv)
 exact ⟨v', h1, h2⟩⟩
theorem aop_alloc {t : TypeId} {z : Value} (ho : o.op = .alloc t) (hz : zeroT P t = some z) (hc : closedV 2 z = true) : AOp P o ρ (.row ⟨z.cells.toList, t, false⟩) fun b => .pointer (some ⟨b, 0, none⟩) := by
 refine ⟨mk_ptr, fun μ ρc w _ => ⟨.cells z.cells t, row_obj t (by simpa using (closedV_rel μ 2 z hc).cells), ?_⟩⟩
 unfold execOp
 simp only [ho, Instr.alloc, Sem.run_bind, zero_run hz, Result.andThen_ok, newVar, newRow, run_newObj, Sem.run_pure]
 rfl
theorem aop_box {t : TypeId} {x : Operand} (ho : o.op = .box t x) : AOp P o ρ (.row ⟨(ρ x).cells.toList, t, false⟩) fun b => .pointer (some ⟨b, 0, none⟩) := by
 refine ⟨mk_ptr, fun μ ρc w hor => ⟨.cells (ρc x).cells t, row_obj t ?_, ?_⟩⟩
 ·rw [ho] at hor
  simpa using (hor x (by simp [Op.operands])).cells
 ·unfold execOp
  simp only [ho, Instr.box, Sem.run_bind, Result.andThen_ok, newVar, newRow, run_newObj, Sem.run_pure]
  rfl
def zerosF (z : Array Value) (n : Nat) : Array Value := (Array.range n).map (z[· % z.size]!)
theorem zeros_rel {μ : Mu} {z : Array Value} (h : ARel μ z z) (hz : 0 < z.size) (n : Nat) : ARel μ (zerosF z n) (zerosF z n) := ⟨rfl, fun i v v' h1 h2 => by
  rw [h1] at h2
  cases h2
  unfold zerosF at h1
  rw [Array.getElem?_map] at h1
  cases hr : (Array.range n)[i]? with
  | none => rw [hr] at h1; cases h1
  | some k =>
    rw [hr] at h1
    cases h1
    have hlt : k % z.size < z.size := Nat.mod_lt _ hz
    have : z[k % z.size]? = some z[k % z.size]! := by simp [hlt]
    exact h.2 _ _ _ this this⟩
noncomputable def buildSliceF (P : Program) (t : TypeId) (len : Nat) (ps : List (Nat × Value)) : Option (TypeId × List Value) :=
  match uT P t with
  | some (.slice e) => match sizeT P e, zeroT P e with
    | some s, some z => if len * s ≤ 2 ^ 24 ∧ closedV 2 z = true ∧ 0 < z.cells.size then
        (match Instr.fill (fun i => some (i * s, s)) (if len * s = 0 then #[] else zerosF z.cells (len * s)) ps with | some cs => some (e, cs.toList) | none => none) else none
    | _, _ => none
  | _ => none
theorem aop_buildSlice {t e : TypeId} {len : Nat} {ps : Array (Nat × Operand)} {cs : List Value} (ho : o.op = .buildSlice t len ps) (h : buildSliceF P t len (ps.toList.map fun (i, x) => (i, ρ x)) = some (e, cs)) : AOp P o ρ (.row ⟨cs, e, false⟩) fun b => .slice (some ⟨b, 0, none⟩) len len := by
 refine ⟨mk_slice len len, fun μ ρc w hor => ?_⟩
 rw [ho] at hor
 have hp := PRel.map (μ := μ) (ρ := ρ) (ρc := ρc) ps.toList fun p hp => hor p.2 (by simp only [Op.operands]; simp only [List.mem_toArray, List.mem_map]; exact ⟨p, hp, rfl⟩)
 unfold buildSliceF at h
 try simp only [uT_eq] at h
 split at h
 ·rename_i e' hu
  split at h
  ·rename_i s z hs hz
   split at h
   ·rename_i hc
    obtain ⟨h1, h2, h3⟩ := hc
    split at h
    ·rename_i r hr
     cases h
     have hrel : ARel μ (if len * s = 0 then #[] else zerosF z.cells (len * s)) (if len * s = 0 then #[] else zerosF z.cells (len * s)) := by
      split
      ·exact ⟨rfl, by simp⟩
      ·exact zeros_rel (closedV_rel μ 2 z h2).cells h3 _
     obtain ⟨r', h4, h5⟩ := fill_rel _ _ _ _ _ hp hrel hr
     refine ⟨.cells r' e, row_obj e (by simpa using h5), ?_⟩
     have hps : (ps.map fun (i, x) => (i, ρc x)).toList = ps.toList.map fun (i, x) => (i, ρc x) := by simp
     unfold execOp
     simp only [ho, Instr.buildSlice, Sem.run_bind, run_underlying hu, Result.andThen_ok, sizeOf_run hs]
     have : ¬ len * s > 2 ^ 24 := by omega
     simp only [this, if_false, Sem.run_pure]
     by_cases h0 : len * s = 0
     ·simp only [h0, if_true, Sem.run_pure, Result.andThen_ok, hps, Sem.run_bind] at h4 ⊢
      have e0 : (Array.range 0).map (fun i => (#[] : Array Value)[i % (#[] : Array Value).size]!) = #[] := by simp
      rw [e0, h4]
      rfl
     ·simp only [h0, if_false, Sem.run_bind, zero_run hz, Sem.run_pure, Result.andThen_ok, hps] at h4 ⊢
      unfold zerosF at h4
      rw [h4]
      rfl
    ·cases h
   ·cases h
  ·cases h
 ·cases h
noncomputable def makeSliceF (P : Program) (t : TypeId) (len cap : Value) : Option (TypeId × List Value × Nat × Nat) :=
 match uT P t, len, cap with
 | some (.slice e), .int _ l, .int _ c => match iT P e, zeroT P e with
  | some i, some z => if 0 ≤ l ∧ l ≤ c ∧ c ≤ 9223372036854775807 ∧ i.bytes * c ≤ 2 ^ 48 ∧ closedV 2 z = true ∧ 0 < z.cells.size then some (e, (if c.toNat * i.size = 0 then [] else (zerosF z.cells (c.toNat * i.size)).toList), l.toNat, c.toNat) else none
  | _, _ => none
 | _, _, _ => none
theorem wrap64_id {n : Int} (h : 0 ≤ n ∧ n ≤ 9223372036854775807) : IntKind.i64.wrap n = n := by
 simp [IntKind.wrap, IntKind.bits, IntKind.signed]
 omega
theorem aop_makeSlice {t e : TypeId} {x y : Operand} {cs : List Value} {l c : Nat} (ho : o.op = .makeSlice t x y) (h : makeSliceF P t (ρ x) (ρ y) = some (e, cs, l, c)) : AOp P o ρ (.row ⟨cs, e, false⟩) fun b => .slice (some ⟨b, 0, none⟩) l c := by
 refine ⟨mk_slice l c, fun μ ρc w hor => ?_⟩
 rw [ho] at hor
 have h1 := hor x (by simp [Op.operands])
 have h2 := hor y (by simp [Op.operands])
 unfold makeSliceF at h
 try simp only [uT_eq, iT_eq] at h
 split at h
 ·rename_i e' k l' k' c' hu hx hy
  rw [hx] at h1
  rw [hy] at h2
  have h1 := flatV_eq rfl h1
  have h2 := flatV_eq rfl h2
  split at h
  ·rename_i i z hi hz
   split at h
   ·rename_i hc
    obtain ⟨g1, g2, g3, g4, g5, g6⟩ := hc
    cases h
    have hs : sizeT P e = some i.size := by simp [sizeT, hi]
    refine ⟨.cells (if c'.toNat * i.size = 0 then #[] else zerosF z.cells (c'.toNat * i.size)) e, row_obj e ?_, ?_⟩
    ·split
     ·exact ⟨rfl, by simp⟩
     ·simpa using zeros_rel (closedV_rel μ 2 z g5).cells g6 _
    ·unfold execOp
     have w1 := wrap64_id (n := l') ⟨g1, by omega⟩
     have w2 := wrap64_id (n := c') ⟨by omega, g3⟩
     have c1 : ¬ c' < 0 := by omega
     have c2 : ¬ (i.bytes : Int) * c' > 2 ^ 48 := by omega
     have c3 : ¬ l' < 0 := by omega
     have c4 : ¬ l' > c' := by omega
     simp only [ho, Instr.makeSlice, Sem.run_bind, run_underlying hu, Result.andThen_ok, h1, h2, asInt, asIntOf, Sem.run_pure, typeInfo, run_program, hi, w1, w2]
     simp only [c1, c2, c3, c4, decide_false, Bool.or_self, Bool.false_eq_true, if_false]
     have ar : ∀ (B : Nat) (w : World), (askRoom B).run P w = .ok () w := fun B w => by unfold askRoom; split <;> rfl
     simp only [ar, Sem.run_bind, Result.andThen_ok, sizeOf_run hs]
     by_cases h0 : c'.toNat * i.size = 0
     ·simp only [h0, if_true, Sem.run_bind, Sem.run_pure, Result.andThen_ok, newRow, run_newObj]
      simp [Array.range]
     ·simp only [h0, if_false, Sem.run_bind, zero_run hz, Sem.run_pure, Result.andThen_ok, newRow, run_newObj]
      rfl
   ·cases h
  ·cases h
 ·cases h
theorem aop_makeMap {t : TypeId} (ho : o.op = .makeMap t none) : AOp P o ρ (.ents [] 0) fun b => .map (some b) := by
 refine ⟨fun μ b bi h _ => .map b bi h, fun μ ρc w _ => ⟨.map #[] 0, ⟨#[], rfl, rfl, by simp⟩, ?_⟩⟩
 unfold execOp
 simp only [ho, Instr.makeMap, Option.map_none, Sem.run_bind, run_newObj, Result.andThen_ok, Sem.run_pure]
 rfl
theorem aop_range {t : TypeId} {x : Operand} {s : ByteArray} (ho : o.op = .range t x) (hu : P.underlying t = some .string) (hx : ρ x = .string s) : AOp P o ρ (.iter s 0) fun b => .pointer (some ⟨b, 0, none⟩) := by
 refine ⟨mk_ptr, fun μ ρc w hor => ⟨.stringIter s 0, rfl, ?_⟩⟩
 rw [ho] at hor
 have h1 := hor x (by simp [Op.operands])
 rw [hx] at h1
 have h1 := flatV_eq rfl h1
 unfold execOp
 simp only [ho, Instr.range, Sem.run_bind, run_underlying hu, Result.andThen_ok, h1, Sem.run_pure, run_newObj]
 rfl
end Go.Proofs.YtjcmdifpkafdkaaDoor
namespace Go.Proofs.YtjcmdifpkafdkaaDoor
variable {P : Program} {G : Nat} {nt : Nat} {o : Oper} {ρ : Operand → Value} {v : Value}

def overL (cs : List Value) (p : Nat) (vs : List Value) : List Value := cs.take p ++ vs ++ cs.drop (p + vs.length)
theorem overL_len {cs vs : List Value} {p : Nat} (h : p + vs.length ≤ cs.length) : (overL cs p vs).length = cs.length := by
 simp [overL]; omega
theorem overL_get {cs vs : List Value} {p : Nat} (h : p + vs.length ≤ cs.length) (i : Nat) : (overL cs p vs)[i]? = if p ≤ i ∧ i < p + vs.length then vs[i - p]? else cs[i]? := by
 unfold overL
 rw [List.append_assoc, List.getElem?_append, List.length_take, Nat.min_eq_left (by omega)]
 by_cases h1 : i < p
 ·rw [if_pos h1, if_neg (by omega), List.getElem?_take, if_pos h1]
 ·rw [if_neg h1, List.getElem?_append]
  by_cases h2 : i - p < vs.length
  ·rw [if_pos h2, if_pos (by omega)]
  ·rw [if_neg h2, if_neg (by omega), List.getElem?_drop]
   congr 1
   omega
theorem storeCells_fz (g q : Nat) (t : TypeId) (fz : Nat × Nat) : ∀ (vs : List Value) (i : Nat) (cur : Array Value) (w : World), w.heap[g]? = some (.cells cur t fz) → (fz.2 = 0 ∨ cur.size ≤ fz.1) → q + i + vs.length ≤ cur.size → (∀ v ∈ vs, v.oneCell' = true) →
    (storeCells ⟨g, q, none⟩ vs i).run P w = .ok () (w.setRow g (overL cur.toList (q + i) vs).toArray)
  | [], i, cur, w, hg, _, _, _ => by
    simp only [storeCells, overL, List.append_nil, List.length_nil, Nat.add_zero, List.take_append_drop, Array.toArray_toList]
    rw [setRow_self w g cur t fz hg]
    rfl
  | v :: rest, i, cur, w, hg, hfz, hl, h1 => by
    have hi : q + i < cur.size := by simp at hl; omega
    have hcell : w.cell? ⟨g, q + i, none⟩ = some cur[q + i] := by simp [World.cell?, hg, hi]
    have hfro : w.frozen? ⟨g, q + i, none⟩ = false := by
      obtain ⟨lo, hi'⟩ := fz
      simp only [World.frozen?, hg, Bool.and_eq_false_iff, decide_eq_false_iff_not]
      simp only at hfz
      omega
    have hst : (store ((⟨g, q, none⟩ : Addr).add i) v).run P w = .ok () (w.setRow g (cur.setIfInBounds (q + i) v)) := by
      rw [add_none, run_store P w _ v _ (h1 v (by simp)), hcell]
      simp [hfro, setCell_eq_setRow w g (q + i) cur t fz v hg]
    have ih := storeCells_fz g q t fz rest (i + 1) (cur.setIfInBounds (q + i) v) (w.setRow g (cur.setIfInBounds (q + i) v)) (setRow_heap w g cur _ t _ hg) (by simpa using hfz) (by simp at hl ⊢; omega) (fun x hx => h1 x (by simp [hx]))
    simp only [storeCells, Sem.run_bind, hst, Result.andThen_ok, ih, setRow_setRow]
    congr 3
    have e := list_seg_step cur.toList (q + i) v rest (by simp at hl ⊢; omega)
    simpa [overL, Array.toList_setIfInBounds, Nat.add_assoc] using e
theorem setRow_other (w : World) (g : Nat) (c : Array Value) (B : Nat) (h : B ≠ g) : (w.setRow g c).heap[B]? = w.heap[B]? := by
 simp [World.setRow, Array.getElem?_modify, Ne.symm h]
theorem Stp.write {σ : Mem} {μ : Mu} {w : World} (hs : Sim G μ σ w) (hG : G ≤ σ.next) {b : Nat} {r : Row} {bi : BI} (hb : G ≤ b) (hx : σ.get b = some (.row r)) (hm : μ b = some bi) {p : Nat} {vs vs' : List Value} (hp : p + vs.length ≤ r.cs.length) (hl : vs'.length = vs.length)
    (hv : ∀ (i : Nat) x x', vs[i]? = some x → vs'[i]? = some x' → VRel μ x x') (h1 : ∀ x ∈ vs, x.oneCell' = true) :
    ∃ w', (storeCells ⟨bi.blk, bi.sh + p, none⟩ vs').run P w = .ok () w' ∧ Stp G σ μ w (σ.put b (.row ⟨overL r.cs p vs, r.t, r.g⟩)) μ w' := by
  have hin := hs.blk b _ bi hx hm
  obtain ⟨cc, fz, t', hh, hf', hc⟩ := hin.lie
  obtain ⟨rfl, hf, hz, hgr⟩ := hf' (hs.rw_ b _ bi hb hx hm)
  have hlen : r.cs.length = bi.len := hin.len
  have hfit : bi.sh + p + vs'.length ≤ cc.size := by omega
  have h1' : ∀ x ∈ vs', x.oneCell' = true := fun x hx => by
    obtain ⟨i, hi, e⟩ := List.mem_iff_getElem.1 hx
    have hi' : i < vs.length := by omega
    have := hv i vs[i] vs'[i] (by simp [hi']) (by simp [hi])
    rw [← e, this.one]
    exact h1 _ (List.getElem_mem _)
  have hrun := storeCells_fz (P := P) bi.blk (bi.sh + p) r.t fz vs' 0 cc w hh (hf.imp (fun h => by rw [h]) id) (by simpa using hfit) h1'
  refine ⟨_, hrun, ?_⟩
  refine Stp.turn hs hG hb hx hm ?_ (by simp [World.setRow]) rfl rfl rfl (fun B hB => setRow_other _ _ _ _ hB)
  refine ⟨by simp [overL_len hp, hlen], _, fz, r.t, setRow_heap w bi.blk cc _ r.t fz hh, fun _ => ⟨rfl, ?_, ?_, hgr⟩, fun i x hi => ?_⟩
  · rcases hf with h | h
    · exact .inl h
    · refine .inr ?_
      have := overL_len (cs := cc.toList) (vs := vs') (p := bi.sh + p + 0) (by simpa using hfit)
      simp only [List.size_toArray, this, Array.length_toList]
      exact h
  · have := overL_len (cs := cc.toList) (vs := vs') (p := bi.sh + p + 0) (by simpa using hfit)
    simp only [List.size_toArray, this, Array.length_toList]
    exact hz
  · simp only [List.getElem?_toArray, Nat.add_zero]
    rw [overL_get (by simpa using hfit)]
    simp only at hi
    rw [overL_get hp] at hi
    by_cases hin' : p ≤ i ∧ i < p + vs.length
    · rw [if_pos hin'] at hi
      rw [if_pos (by omega), show bi.sh + i - (bi.sh + p) = i - p by omega]
      have hlt : i - p < vs'.length := by omega
      exact ⟨vs'[i - p], by simp [hlt], hv _ _ _ hi (by simp [hlt])⟩
    · rw [if_neg hin'] at hi
      rw [if_neg (by omega)]
      obtain ⟨v', h2, h3⟩ := hc i x hi
      exact ⟨v', by simpa using h2, h3⟩
theorem VRel.cells_list {μ : Mu} {x x' : Value} (h : VRel μ x x') : x'.cells.toList.length = x.cells.toList.length ∧ ∀ (i : Nat) y y', x.cells.toList[i]? = some y → x'.cells.toList[i]? = some y' → VRel μ y y' :=
 ⟨by simp [h.cells.1], fun i y y' h1 h2 => h.cells.2 i y y' (by simpa using h1) (by simpa using h2)⟩
theorem eop_store {t : TypeId} {a x : Operand} {b p : Nat} {r : Row} {σ : Mem} (ho : o.op = .store t a x) (ha : ρ a = .pointer (some ⟨b, p, none⟩)) (hb : G ≤ b) (hx : σ.get b = some (.row r)) (hsz : sizeT P t = some (ρ x).cells.size) (hp : p + (ρ x).cells.size ≤ r.cs.length) (h1 : (ρ x).cells.all (·.oneCell') = true) :
    EOp G P o ρ σ undef (σ.put b (.row ⟨overL r.cs p (ρ x).cells.toList, r.t, r.g⟩)) := by
  refine ⟨Nat.le_refl _, fun μ w act hs hG _ hor K Q k rd => ?_⟩
  rw [ho] at hor
  have hv := hor x (by simp [Op.operands])
  have hav := hor a (by simp [Op.operands])
  rw [ha] at hav
  obtain ⟨bi, hm, e⟩ := hav.ptr_inv
  obtain ⟨w', hrun, hst⟩ := Stp.write (P := P) hs hG hb hx hm (p := p) (vs := (ρ x).cells.toList) (vs' := (act.eval x).cells.toList) (by simpa using hp) hv.cells_list.1 hv.cells_list.2 (fun y hy => Array.all_eq_true_iff_forall_mem.1 h1 y (by simpa using hy))
  refine wp_of_skip (w' := w') ?_ (k undef w' μ hst (VRel.undef μ))
  unfold execOp
  have hsz' : ¬ (act.eval x).cells.size ≠ (ρ x).cells.size := by simp [hv.cells.1]
  simp only [ho, Instr.storeAt, Sem.run_bind, e, Instr.sureAddr, Sem.run_pure, Result.andThen_ok, storeVar, sizeOf_run hsz, hsz', if_false, hrun]
end Go.Proofs.YtjcmdifpkafdkaaDoor
namespace Go.Proofs.YtjcmdifpkafdkaaDoor
variable {P : Program} {G : Nat} {nt : Nat} {o : Oper} {ρ : Operand → Value} {v : Value}

theorem Stp.grow {σ : Mem} {μ : Mu} {w w' : World} (hs : Sim G μ σ w) (hG : G ≤ σ.next) (hn : μ σ.next = none) {x : Blk2} {bi : BI} (hb : bi.blk = w.heap.size) (hz : 0 < bi.sz) (hw : w'.heap.size = w.heap.size + 1) (hos : w'.os = w.os) (ht : w'.tape = w.tape) (ho : w'.output = w.output) (hk : ∀ B, B < w.heap.size → w'.heap[B]? = w.heap[B]?)
    (hx : ∀ μ', Ext μ μ' → BlkIn w' μ' bi x) : Stp G σ μ w (σ.push x) (μ.add σ.next bi) w' := by
  have he := Mu.add_ext bi hn
  have key : ∀ b, b ≠ σ.next → (μ.add σ.next bi) b = μ b := fun b hb => by simp [Mu.add, hb]
  have old : ∀ b y, (σ.push x).get b = some y → b ≠ σ.next → σ.get b = some y := fun b y hy hb => by rw [σ.push_get, if_neg hb] at hy; exact hy
  have at_c : ∀ b y ci, (σ.push x).get b = some y → (μ.add σ.next bi) b = some ci → b = σ.next → y = x ∧ ci = bi := fun b y ci hy hb e => by
    subst e
    rw [σ.push_get, if_pos rfl] at hy
    rw [Mu.add_at] at hb
    cases hy
    cases hb
    exact ⟨rfl, rfl⟩
  have own2 := OwnOk.same (G := G) (σ := σ) (μ := μ) (w := w) (w' := w') (μ' := μ.add σ.next bi) (σ' := σ.push x) rfl he rfl (by omega) (fun B hB _ => hk B hB) fun b y ci hy hc => by
    by_cases e : b = σ.next
    · obtain ⟨rfl, rfl⟩ := at_c b y ci hy hc e
      exact .inl (by omega)
    · rw [key b e] at hc
      exact .inr ⟨b, y, ci, old b y hy e, hc, rfl⟩
  refine ⟨by simp [Mem.push], fun b h1 h2 => ?_, fun b hb => ?_, ⟨fun g hg => ?_, fun b y ci hy hb' => ?_, fun b b' y y' ci ci' hy hy' hc hc' e => ?_, fun b y ci hGb hy hc => ?_, own2 hs.abs⟩, by omega, hos, ht, ho, fun b y ci hb' hy hm => ?_, fun b y hb' hy => ⟨y, old b y hy (by omega)⟩, hG, own_id, fun B hB _ _ => hk B hB⟩
  · obtain rfl : b = σ.next := by simp [Mem.push] at h2; omega
    exact hn
  · refine key b ?_
    simp [Mem.push] at hb
    omega
  · obtain ⟨ci, h1, h2⟩ := hs.glob g hg
    exact ⟨ci, he _ _ h1, h2⟩
  · by_cases e : b = σ.next
    · obtain ⟨rfl, rfl⟩ := at_c b y ci hy hb' e
      exact hx _ he
    · rw [key b e] at hb'
      have k := hs.blk b y ci (old b y hy e) hb'
      exact k.keep (hk _ k.lt) he
  · by_cases e1 : b = σ.next <;> by_cases e2 : b' = σ.next
    · exact fun _ => by rw [e1, e2]
    · obtain ⟨rfl, rfl⟩ := at_c b y ci hy hc e1
      rw [key b' e2] at hc'
      have := (hs.blk b' y' ci' (old b' y' hy' e2) hc').lt
      omega
    · obtain ⟨rfl, rfl⟩ := at_c b' y' ci' hy' hc' e2
      rw [key b e1] at hc
      have := (hs.blk b y ci (old b y hy e1) hc).lt
      omega
    · rw [key b e1] at hc
      rw [key b' e2] at hc'
      exact hs.inj b b' y y' ci ci' (old b y hy e1) (old b' y' hy' e2) hc hc' e
  · by_cases e : b = σ.next
    · obtain ⟨rfl, rfl⟩ := at_c b y ci hy hc e
      exact hz
    · rw [key b e] at hc
      exact hs.rw_ b y ci hGb (old b y hy e) hc
  · by_cases e : b = σ.next
    · obtain ⟨rfl, rfl⟩ := at_c b y ci hy hm e
      exact .inl (by omega)
    · have := Mem.lt (old b y hy e)
      omega
theorem Stp.regrow {σ : Mem} {μ : Mu} {w w' : World} (hs : Sim G μ σ w) (hG : G ≤ σ.next) (hn : μ σ.next = none) {b : Nat} {y x : Blk2} {bi ci : BI} (hb : G ≤ b) (hy : σ.get b = some y) (hm : μ b = some bi) (hc : ci.blk = bi.blk) (hsz0 : 0 < ci.sz) (hw : w'.heap.size = w.heap.size) (hos : w'.os = w.os) (ht : w'.tape = w.tape) (ho : w'.output = w.output)
    (hk : ∀ B, B ≠ bi.blk → w'.heap[B]? = w.heap[B]?) (hx : ∀ μ', Ext μ μ' → BlkIn w' μ' ci x) : Stp G σ μ w ((σ.kill b).push x) (μ.add σ.next ci) w' := by
  have he := Mu.add_ext ci hn
  have hlt := Mem.lt hy
  have hg : ∀ c, ((σ.kill b).push x).get c = if c = σ.next then some x else if c = b then none else σ.get c := fun c => by rw [Mem.push_get, Mem.kill_get]; rfl
  have key : ∀ c, c ≠ σ.next → (μ.add σ.next ci) c = μ c := fun c hb => by simp [Mu.add, hb]
  have old : ∀ c z, ((σ.kill b).push x).get c = some z → c ≠ σ.next → σ.get c = some z ∧ c ≠ b := fun c z hz hb => by
    rw [hg, if_neg hb] at hz
    split at hz
    · cases hz
    · exact ⟨hz, by assumption⟩
  have at_c : ∀ c z di, ((σ.kill b).push x).get c = some z → (μ.add σ.next ci) c = some di → c = σ.next → z = x ∧ di = ci := fun c z di hz hb e => by
    subst e
    rw [hg, if_pos rfl] at hz
    rw [Mu.add_at] at hb
    cases hz
    cases hb
    exact ⟨rfl, rfl⟩
  have own2 := OwnOk.same (G := G) (σ := σ) (μ := μ) (w := w) (w' := w') (μ' := μ.add σ.next ci) (σ' := (σ.kill b).push x) rfl he rfl (by omega) (fun B _ h => hk B (Ne.symm (h b y bi hb hy hm))) fun c z di hz hd => by
    by_cases e : c = σ.next
    · obtain ⟨rfl, rfl⟩ := at_c c z di hz hd e
      exact .inr ⟨b, y, bi, hy, hm, hc.symm⟩
    · rw [key c e] at hd
      exact .inr ⟨c, z, di, (old c z hz e).1, hd, rfl⟩
  refine ⟨by simp [Mem.push, Mem.kill], fun c h1 h2 => ?_, fun c hc' => ?_, ⟨fun g hg' => ?_, fun c z di hz hd => ?_, fun c c' z z' di di' hz hz' hd hd' e => ?_, fun c z di hGc hz hd => ?_, own2 hs.abs⟩, by omega, hos, ht, ho, fun c z di hc' hz hd => ?_, fun c z hc' hz => ⟨z, (old c z hz (by omega)).1⟩, hG, own_id, fun B _ _ h => hk B (Ne.symm (h b y bi hb hy hm))⟩
  · obtain rfl : c = σ.next := by simp [Mem.push, Mem.kill] at h2; omega
    exact hn
  · refine key c ?_
    simp [Mem.push, Mem.kill] at hc'
    omega
  · obtain ⟨di, h1, h2⟩ := hs.glob g hg'
    exact ⟨di, he _ _ h1, h2⟩
  · by_cases e : c = σ.next
    · obtain ⟨rfl, rfl⟩ := at_c c z di hz hd e
      exact hx _ he
    · rw [key c e] at hd
      obtain ⟨h1, h2⟩ := old c z hz e
      have k := hs.blk c z di h1 hd
      exact k.keep (hk _ fun e' => h2 (hs.inj c b z y di bi h1 hy hd hm e' (.inr hb))) he
  · by_cases e1 : c = σ.next <;> by_cases e2 : c' = σ.next
    · exact fun _ => by rw [e1, e2]
    · obtain ⟨rfl, rfl⟩ := at_c c z di hz hd e1
      rw [key c' e2] at hd'
      obtain ⟨h1, h2⟩ := old c' z' hz' e2
      exact absurd (hs.inj c' b z' y di' bi h1 hy hd' hm (by omega) (.inr hb)) h2
    · obtain ⟨rfl, rfl⟩ := at_c c' z' di' hz' hd' e2
      rw [key c e1] at hd
      obtain ⟨h1, h2⟩ := old c z hz e1
      exact absurd (hs.inj c b z y di bi h1 hy hd hm (by omega) (.inr hb)) h2
    · rw [key c e1] at hd
      rw [key c' e2] at hd'
      exact hs.inj c c' z z' di di' (old c z hz e1).1 (old c' z' hz' e2).1 hd hd' e
  · by_cases e : c = σ.next
    · obtain ⟨rfl, rfl⟩ := at_c c z di hz hd e
      exact hsz0
    · rw [key c e] at hd
      exact hs.rw_ c z di hGc (old c z hz e).1 hd
  · by_cases e : c = σ.next
    · obtain ⟨rfl, rfl⟩ := at_c c z di hz hd e
      exact .inr ⟨b, y, bi, hb, hy, hm, hc.symm⟩
    · have := Mem.lt (old c z hz e).1
      omega
theorem Stp.drew {σ σ' : Mem} {μ μ' : Mu} {w w' : World} (h : Stp G σ μ w.drew σ' μ' w') : Stp G σ μ w σ' μ' w' :=
 ⟨h.next, h.fresh, h.ext, h.sim, h.size, h.os, h.tape, h.output, h.new, h.live, h.low, h.own, h.keep⟩

def byteV (b : UInt8) : Value := .int .u8 b.toNat
def srcF (σ : Mem) (size : Nat) : Value → Option (Nat × List Value)
 | .string s => if size = 1 then some (s.size, s.data.toList.map byteV) else none
 | .slice none 0 0 => some (0, [])
 | .slice (some ⟨b, p, _⟩) n _ => if n = 0 then some (0, []) else (match σ.get b with
  | some (.row r) => if p + n * size ≤ r.cs.length then some (n, (r.cs.drop p).take (n * size)) else none
  | _ => none)
 | .chan (some _) => some (0, [])
 | _ => none
theorem VRel.void_inv {μ : Mu} {c : Nat} {x' : Value} (h : VRel μ (.chan (some c)) x') : ∃ A, x' = .slice (some A) 0 c := by
 cases h with
 | void A c => exact ⟨A, rfl⟩
 | flat _ h => simp [flatV] at h
theorem srcF_len {σ : Mem} {size n : Nat} {x : Value} {xs : List Value} (h : srcF σ size x = some (n, xs)) : xs.length = n * size := by
 unfold srcF at h
 split at h
 ·split at h
  ·rename_i hs; cases h; simp [hs]
  ·cases h
 ·cases h; simp
 ·split at h
  ·rename_i hn; cases h; simp
  ·split at h
   ·split at h
    ·cases h; simp; omega
    ·cases h
   ·cases h
 ·cases h; simp
 ·cases h
theorem src_rel {σ : Mem} {μ : Mu} {w : World} (hs : Sim G μ σ w) {size n : Nat} {x x' : Value} {xs : List Value} (hx : VRel μ x x') (h : srcF σ size x = some (n, xs)) :
    (Builtin.lenOf x').run P w = .ok n w ∧ ∃ xs' : List Value, xs'.length = xs.length ∧ (Builtin.firstCells size n x').run P w = .ok xs'.toArray w ∧ ∀ (i : Nat) y y', xs[i]? = some y → xs'[i]? = some y' → VRel μ y y' := by
  have hl := srcF_len h
  unfold srcF at h
  split at h
  · rename_i s
    split at h
    · cases h
      have e := flatV_eq rfl hx
      subst e
      refine ⟨rfl, s.data.toList.map byteV, rfl, ?_, fun i y y' h1 h2 => ?_⟩
      · simp only [Builtin.firstCells, Sem.run_pure]
        congr 1
        apply Array.ext'
        have e : s.extract 0 s.size = s := by simp
        rw [e]
        simp [byteV]
      · rw [h1] at h2
        cases h2
        rw [List.getElem?_map] at h1
        cases hb : s.data.toList[i]? with
        | none => rw [hb] at h1; cases h1
        | some u => rw [hb] at h1; cases h1; exact .flat _ rfl
    · cases h
  · cases h
    have e := flatV_eq rfl hx
    subst e
    exact ⟨rfl, [], rfl, rfl, by simp⟩
  · rename_i b p sp n' c
    obtain ⟨bi, q, c', hb, e, _, hq⟩ := hx.slice_inv
    subst e
    split at h
    · rename_i hn
      subst hn
      cases h
      refine ⟨rfl, [], rfl, ?_, by simp⟩
      simp [Builtin.firstCells, loadCells, loadCellsFrom]
    · rename_i hn
      split at h
      · rename_i r hr
        split at h
        · rename_i hfit
          cases h
          have hq := hq hn
          subst hq
          have hc : CellsIn w μ b p ((r.cs.drop p).take (n * size)) := CellsIn.of_row hs hb hr fun i v hv => by
            rw [List.getElem?_take] at hv
            split at hv
            · rw [List.getElem?_drop] at hv; exact hv
            · cases hv
          obtain ⟨bi', cs', hb', hl', hcell, hrel⟩ := cells_of hc
          rw [hb] at hb'
          cases hb'
          refine ⟨rfl, cs', hl', ?_, hrel⟩
          simp only [Builtin.firstCells]
          have := run_loadCells_list (P := P) w ⟨bi.blk, bi.sh + p, none⟩ cs' hcell
          rw [hl', hl] at this
          exact this
        · cases h
      · cases h
  · cases h
    obtain ⟨A, rfl⟩ := hx.void_inv
    exact ⟨rfl, [], rfl, by simp [Builtin.firstCells, loadCells, loadCellsFrom], by simp⟩
  · cases h
def zerosN (l : List Value) : Nat → List Value
 | 0 => []
 | n + 1 => l ++ zerosN l n
theorem zerosN_len (l : List Value) : ∀ n, (zerosN l n).length = n * l.length
 | 0 => by simp [zerosN]
 | n + 1 => by simp [zerosN, zerosN_len l n, Nat.add_mul]; omega
theorem zerosN_get (l : List Value) : ∀ n i, i < n * l.length → (zerosN l n)[i]? = l[i % l.length]?
 | 0, i, h => by simp at h
 | n + 1, i, h => by
  simp only [zerosN, List.getElem?_append]
  by_cases hi : i < l.length
  ·simp [hi, Nat.mod_eq_of_lt hi]
  ·rw [if_neg hi, zerosN_get l n (i - l.length) (by rw [Nat.add_mul] at h; omega)]
   rw [Nat.mod_eq_sub_mod (by omega : i ≥ l.length)]
theorem zeroCells_eq (z : Array Value) (n : Nat) : (Builtin.zeroCells z n).toList = zerosN z.toList n := by
 apply List.ext_getElem?
 intro i
 by_cases h : i < n * z.size
 ·rw [zerosN_get _ _ _ (by simpa using h)]
  have h0 : 0 < z.size := by
   rcases Nat.eq_zero_or_pos z.size with e | e
   ·rw [e] at h; simp at h
   ·exact e
  have h1 : i % z.size < z.size := Nat.mod_lt _ h0
  simp [Builtin.zeroCells, h, h1]
 ·rw [List.getElem?_eq_none (by simp [Builtin.zeroCells]; omega), List.getElem?_eq_none (by simp [zerosN_len]; omega)]
def AppSrc (P : Program) (u : TypeId) (i : TypeInfo) (z x : Value) (n : Nat) (w wd : World) (new : Array Value) : Prop :=
 ((∃ d, P.underlying u = some d ∧ ∀ k, d ≠ .int k) ∧ (Builtin.lenOf x).run P w = .ok n w ∧ (Builtin.firstCells i.size n x).run P wd = .ok new wd)
 ∨ (∃ k k', P.underlying u = some (.int k) ∧ x = .int k' (.ofNat n) ∧ n ≤ 1000000000 ∧ n * i.bytes ≤ 1000000000 ∧ new = Builtin.zeroCells z.cells n ∧ z.cells.size = i.size)
theorem wrap_nat {n : Nat} (h : n ≤ 1000000000) : IntKind.i64.wrap (Int.ofNat n) = Int.ofNat n := by
 simp [IntKind.wrap, IntKind.bits, IntKind.signed]
 omega
theorem append_room {t u ty e : TypeId} {i : TypeInfo} {z : Value} {w w' : World} {base : Option Addr} {l c n : Nat} {x : Value} {new : Array Value} (ht : P.underlying t = some (.slice e)) (hi : P.info? e = some i) (hz : i.zero = some z)
    (hs : AppSrc P u i z x n w w new) (hroom : l + n ≤ c) (hst : ∀ a, base = some a → (storeCells (a.add (l * i.size)) new.toList).run P w = .ok () w') (hnone : base = none → w' = w) :
    (Builtin.append_ #[t, u] ty #[.slice base l c, x]).run P w = .ok (.slice base (l + n) c) w' := by
  rcases hs with ⟨⟨d, hd, hk⟩, hl, hf⟩ | ⟨k, k', hd, rfl, hn, hb, rfl, hzi⟩
  · have hzz : (match d with | TypeDesc.int _ => true | _ => false) = false := by cases d <;> first | rfl | exact absurd rfl (hk _)
    simp [Builtin.append_, run_underlying ht, run_underlying hd, sizeOf, typeInfo, hi, hl, hroom, hf]
    cases base with
    | none => simp [hnone rfl]
    | some a => simp [hst a rfl]
  · have h1 : ¬ (281474976710656 < (n : Int) * (i.bytes : Int)) := by
      rw [← Int.natCast_mul]
      omega
    have h2 : ¬ ((n : Int) < 0) := by omega
    have e0 : n * i.size = 0 → Builtin.zeroCells z.cells n = #[] := fun h => by
      apply Array.eq_empty_of_size_eq_zero
      simp [Builtin.zeroCells]
      rw [← hzi] at h
      simpa using h
    have hw : IntKind.i64.wrap (n : Int) = n := wrap_nat hn
    simp [Builtin.append_, run_underlying ht, run_underlying hd, sizeOf, typeInfo, zeroValue, hi, hz, asInt, asIntOf, hw, h1, h2, hroom]
    split
    · rename_i hz0
      rw [e0 (by simpa using hz0)] at hst
      cases base with
      | none => simp [hnone rfl]
      | some a => simp [hst a rfl]
    · cases base with
      | none => simp [hnone rfl]
      | some a => simp [hst a rfl]
theorem append_grow {t u ty e : TypeId} {i : TypeInfo} {z : Value} {w : World} {base : Option Addr} {l c n : Nat} {x : Value} {old new : Array Value} (ht : P.underlying t = some (.slice e)) (hi : P.info? e = some i) (hz : i.zero = some z)
    (hs : AppSrc P u i z x n w w.drew new) (ho : (Builtin.firstCells i.size l (.slice base l c)).run P w.drew = .ok old w.drew) (hroom : c < l + n) (h63 : l + n ≤ 9223372036854775807) (h48 : (l + n) * i.bytes ≤ 140737488355328) :
    ∃ cap, l + n ≤ cap ∧ (Builtin.append_ #[t, u] ty #[.slice base l c, x]).run P w = .ok (.slice (some ⟨w.heap.size, 0, none⟩) (l + n) cap) (w.drew.alloc (.cells (old ++ new ++ Builtin.zeroCells z.cells (cap - (l + n))) e)) := by
  have hn : ¬ (l + n ≤ c) := by omega
  have hfit := growslice_fits hroom h48
  have h48' : ¬ (281474976710656 < Builtin.nextslicecap (l + n) c * i.bytes) := by omega
  have h63' : ¬ (9223372036854775807 < ((l : Int) + (n : Int))) := by omega
  refine ⟨grownCap w (l + n) c e, by unfold grownCap; simp [Question.cut], ?_⟩
  rcases hs with ⟨⟨d, hd, hk⟩, hl, hf⟩ | ⟨k, k', hd, rfl, hn1, hb, rfl, hzi⟩
  · have hzz : (match d with | TypeDesc.int _ => true | _ => false) = false := by cases d <;> first | rfl | exact absurd rfl (hk _)
    simp [Builtin.append_, run_underlying ht, run_underlying hd, sizeOf, typeInfo, zeroValue, hi, hz, hl, hn, h63', h48', Question.forced, hf, ho, newRow, grownCap]
  · have h1 : ¬ (281474976710656 < (n : Int) * (i.bytes : Int)) := by
      rw [← Int.natCast_mul]
      omega
    have h2 : ¬ ((n : Int) < 0) := by omega
    have e0 : n * i.size = 0 → Builtin.zeroCells z.cells n = #[] := fun h => by
      apply Array.eq_empty_of_size_eq_zero
      simp [Builtin.zeroCells]
      rw [← hzi] at h
      simpa using h
    have hw : IntKind.i64.wrap (n : Int) = n := wrap_nat hn1
    simp [Builtin.append_, run_underlying ht, run_underlying hd, sizeOf, typeInfo, zeroValue, hi, hz, asInt, asIntOf, hw, h1, h2, hn, h63', h48', Question.forced, ho, newRow, grownCap]
    intro hz0
    rw [e0 hz0]
    simp
def srcG (d : TypeDesc) (i : TypeInfo) (z : Value) (σ : Mem) (x : Value) : Option (Nat × List Value) := match d with
 | .int _ => (match x with
  | .int _ (.ofNat n) => if n ≤ 1000000000 ∧ n * i.bytes ≤ 1000000000 ∧ closedV 2 z = true ∧ z.cells.size = i.size then some (n, zerosN z.cells.toList n) else none
  | _ => none)
 | _ => srcF σ i.size x
theorem srcG_len {d : TypeDesc} {i : TypeInfo} {z : Value} {σ : Mem} {n : Nat} {x : Value} {xs : List Value} (h : srcG d i z σ x = some (n, xs)) : xs.length = n * i.size := by
 unfold srcG at h
 split at h
 ·split at h
  ·split at h
   ·rename_i hk
    cases h
    rw [zerosN_len, Array.length_toList, hk.2.2.2]
   ·cases h
  ·cases h
 ·exact srcF_len h
theorem srcG_rel {u : TypeId} {d : TypeDesc} {i : TypeInfo} {z : Value} {σ : Mem} {μ : Mu} {w wd : World} (hd : P.underlying u = some d) (hs : Sim G μ σ w) (hsd : Sim G μ σ wd) {n : Nat} {x x' : Value} {xs : List Value} (hx : VRel μ x x') (h : srcG d i z σ x = some (n, xs)) :
    ∃ xs' : List Value, xs'.length = xs.length ∧ AppSrc P u i z x' n w wd xs'.toArray ∧ ∀ (j : Nat) y y', xs[j]? = some y → xs'[j]? = some y' → VRel μ y y' := by
  unfold srcG at h
  split at h
  · split at h
    · split at h
      · rename_i k _ k' m hk
        cases h
        have e := flatV_eq rfl hx
        subst e
        have hz := (closedV_rel μ 2 z hk.2.2.1).cells
        refine ⟨zerosN z.cells.toList n, rfl, .inr ⟨k, k', hd, rfl, hk.1, hk.2.1, ?_, hk.2.2.2⟩, fun j y y' h1 h2 => ?_⟩
        · apply Array.ext'
          rw [zeroCells_eq]
        · rw [h1] at h2
          cases h2
          have hj : j < (zerosN z.cells.toList n).length := (List.getElem?_eq_some_iff.1 h1).1
          rw [zerosN_len] at hj
          rw [zerosN_get _ _ _ hj, Array.getElem?_toList] at h1
          exact hz.2 _ _ _ h1 h1
      · cases h
    · cases h
  · rename_i hne
    obtain ⟨g1, _⟩ := src_rel (P := P) hs hx h
    obtain ⟨_, xs', g2, g3, g4⟩ := src_rel (P := P) hsd hx h
    exact ⟨xs', g2, .inl ⟨⟨d, hd, fun k e => hne k e⟩, g1, g3⟩, g4⟩
theorem regrow_in {σ : Mem} {μ : Mu} {w : World} (hs : Sim G μ σ w) (hG : G ≤ σ.next) (hn : μ σ.next = none) {b : Nat} {r : Row} {bi : BI} (hb : G ≤ b) (hy : σ.get b = some (.row r)) (hm : μ b = some bi) {q cc' l n size : Nat} {old xs xs' : List Value} {cc : Array Value} {fz : Nat × Nat} (hsz : 0 < size) (hh : w.heap[bi.blk]? = some (.cells cc r.t fz)) (hf : fz = (0, 0) ∨ cc.size ≤ fz.1)
    (hq : q + cc' * size = cc.size) (hroom : l + n ≤ cc') (hlo : old.length = l * size) (hlx : xs.length = n * size) (hlx' : xs'.length = xs.length) (hold : ∀ (i : Nat) y, old[i]? = some y → ∃ y', cc[q + i]? = some y' ∧ VRel μ y y') (hxs : ∀ (i : Nat) y y', xs[i]? = some y → xs'[i]? = some y' → VRel μ y y') (h1 : ∀ x ∈ xs, x.oneCell' = true) :
    ∃ w', (storeCells ((⟨bi.blk, q, none⟩ : Addr).add (l * size)) xs').run P w = .ok () w' ∧ Stp G σ μ w ((σ.kill b).push (.row ⟨old ++ xs, r.t, true⟩)) (μ.add σ.next ⟨bi.blk, q, (l + n) * size, cc' - (l + n), size⟩) w' := by
  have hmul : (l + n) * size ≤ cc' * size := Nat.mul_le_mul_right _ hroom
  have hdist : (l + n) * size = l * size + n * size := Nat.add_mul _ _ _
  have h1' : ∀ x ∈ xs', x.oneCell' = true := fun x hx => by
    obtain ⟨i, hi, e⟩ := List.mem_iff_getElem.1 hx
    have hi' : i < xs.length := by omega
    have := hxs i xs[i] xs'[i] (by simp [hi']) (by simp [hi])
    rw [← e, this.one]
    exact h1 _ (List.getElem_mem _)
  have hfit : q + l * size + 0 + xs'.length ≤ cc.size := by omega
  have hrun := storeCells_fz (P := P) bi.blk (q + l * size) r.t fz xs' 0 cc w hh (hf.imp (fun h => by rw [h]) id) hfit h1'
  rw [add_none]
  refine ⟨_, hrun, Stp.regrow hs hG hn hb hy hm rfl hsz (by simp [World.setRow]) rfl rfl rfl (fun B hB => setRow_other _ _ _ _ hB) fun μ' he => ?_⟩
  have hfit' : q + l * size + 0 + xs'.length ≤ cc.toList.length := by simpa using hfit
  have hol := overL_len hfit'
  refine ⟨by simp [hlo, hlx, hdist], _, fz, r.t, setRow_heap w bi.blk cc _ r.t fz hh, fun _ => ⟨rfl, ?_, ?_, fun h => by cases h⟩, fun i x hi => ?_⟩
  · simp only [List.size_toArray, hol, Array.length_toList]
    exact hf
  · simp only [List.size_toArray, hol, Array.length_toList]
    have : (l + n) * size + (cc' - (l + n)) * size = cc' * size := by rw [← Nat.add_mul]; congr 1; omega
    omega
  · simp only [List.getElem?_toArray]
    rw [overL_get hfit']
    simp only [List.getElem?_append] at hi
    by_cases hl : i < old.length
    · rw [if_pos hl] at hi
      rw [if_neg (by omega)]
      obtain ⟨y', h2, h3⟩ := hold i x hi
      exact ⟨y', by simpa using h2, h3.ext he⟩
    · rw [if_neg hl] at hi
      have hlt : i - old.length < xs.length := (List.getElem?_eq_some_iff.1 hi).1
      rw [if_pos (by omega), show q + i - (q + l * size + 0) = i - old.length by omega]
      have hlt' : i - old.length < xs'.length := by omega
      exact ⟨xs'[i - old.length], by simp [hlt'], (hxs _ _ _ hi (by simp [hlt'])).ext he⟩
theorem grow_new {σ : Mem} {μ : Mu} {w : World} (hs : Sim G μ σ w) (hG : G ≤ σ.next) (hn : μ σ.next = none) {m cap size : Nat} {xs xs' : List Value} {z : Array Value} {e : TypeId} (hsz : 0 < size) (hlx : xs.length = m * size) (hlx' : xs'.length = xs.length) (hz : z.size = size) (_hcap : m ≤ cap) (hxs : ∀ (i : Nat) y y', xs[i]? = some y → xs'[i]? = some y' → VRel μ y y') :
    Stp G σ μ w (σ.push (.row ⟨xs, e, true⟩)) (μ.add σ.next ⟨w.heap.size, 0, m * size, cap - m, size⟩) (w.drew.alloc (.cells (xs'.toArray ++ Builtin.zeroCells z (cap - m)) e)) := by
  refine Stp.grow hs hG hn rfl hsz (by simp) rfl rfl rfl (fun B hB => RowKit.Below.heap_alloc w.drew _ _ hB) fun μ' he => ?_
  refine ⟨hlx, _, (0, 0), e, (by show (w.heap.push _)[w.heap.size]? = _; simp; rfl), fun _ => ⟨rfl, .inl rfl, ?_, fun h => by cases h⟩, fun i x hi => ?_⟩
  · simp [Builtin.zeroCells, hz, hlx', hlx]
  · have hlt : i < xs.length := (List.getElem?_eq_some_iff.1 hi).1
    have hlt' : i < xs'.length := by omega
    refine ⟨xs'[i], ?_, (hxs i x _ hi (by simp [hlt'])).ext he⟩
    simp only [Nat.zero_add]
    rw [Array.getElem?_append_left (by simpa using hlt')]
    simp [hlt']
inductive MCmd where
 | same
 | push (x : Blk2)
 | put (b : Nat) (x : Blk2)
 | kpush (b : Nat) (x : Blk2)
 | kill (b : Nat)
def MCmd.app (σ : Mem) : MCmd → Mem
  | .same => σ
  | .push x => σ.push x
  | .put b x => σ.put b x
  | .kpush b x => (σ.kill b).push x
  | .kill b => σ.kill b
noncomputable def appendF (G : Nat) (P : Program) (σ : Mem) (t u : TypeId) (s x : Value) : Option (Value × MCmd) :=
  match uT P t, uT P u with
  | some (.slice e), some d => (match iT P e with
    | some i => (match i.zero with
      | some z => if z.cells.size = i.size ∧ 0 < i.size then (match srcG d i z σ x with
        | some (n, xs) => if n = 0 then (match s with
            | .slice none 0 0 => some (s, .same)
            | .slice (some ⟨_, _, _⟩) l c => if l ≤ c then some (s, .same) else none
            | _ => none)
          else (match s with
            | .slice none 0 0 => if n ≤ 1000000000 ∧ n * i.bytes ≤ 1000000000 then some (.slice (some ⟨σ.next, 0, some i.size⟩) n n, .push (.row ⟨xs, e, true⟩)) else none
            | .slice (some ⟨b, p, sp⟩) l c => (match σ.get b with
              | some (.row r) => if l + n ≤ c then (if G ≤ b ∧ p + l * i.size + xs.length ≤ r.cs.length ∧ xs.all (·.oneCell') = true then some (.slice (some ⟨b, p, sp⟩) (l + n) c, .put b (.row ⟨overL r.cs (p + l * i.size) xs, r.t, r.g⟩)) else none)
                else if (l + n) ≤ 1000000000 ∧ (l + n) * i.bytes ≤ 1000000000 ∧ p + l * i.size ≤ r.cs.length then (match sp with
                  | none => some (.slice (some ⟨σ.next, 0, some i.size⟩) (l + n) (l + n), .push (.row ⟨(r.cs.drop p).take (l * i.size) ++ xs, e, true⟩))
                  | some sz => if sz = i.size ∧ G ≤ b ∧ r.t = e ∧ xs.all (·.oneCell') = true then some (.slice (some ⟨σ.next, 0, some i.size⟩) (l + n) (l + n), .kpush b (.row ⟨(r.cs.drop p).take (l * i.size) ++ xs, e, true⟩)) else none)
                else none
              | _ => none)
            | _ => none)
        | none => none) else none
      | none => none)
    | none => none)
  | _, _ => none
theorem wp_append {t u : TypeId} {c : Call} {s x : Operand} (ho : o.op = .call c) (hc : c.callee = .builtin .append) (ha : c.args = #[s, x]) (ht : c.argTypes = #[t, u]) {a : Act} {w w' : World} {vc : Value} (h : (Builtin.append_ #[t, u] o.type #[a.eval s, a.eval x]).run P w = .ok vc w') : (execOp a.eval o).run P w = .ok (.value vc) w' := by
 unfold execOp
 simp only [ho, Sem.run_bind, resolve, hc, ha, ht, Result.andThen_ok, Sem.run_pure]
 simp [invoke, builtin, h]
theorem VRel.sliceE_inv {μ : Mu} {b p n c : Nat} : ∀ {v' : Value}, VRel μ (.slice (some ⟨b, p, none⟩) n c) v' → ∃ bi, μ b = some bi ∧ v' = .slice (some ⟨bi.blk, bi.sh + p, none⟩) n c
 | _, .flat _ h => by simp [flatV] at h
 | _, .sliceE _ _ _ _ bi h => ⟨bi, h, rfl⟩
theorem VRel.sliceG_inv {μ : Mu} {b p n c sz : Nat} : ∀ {v' : Value}, VRel μ (.slice (some ⟨b, p, some sz⟩) n c) v' → ∃ bi, μ b = some bi ∧ 0 < sz ∧ bi.sz = sz ∧ ((v' = .slice (some ⟨bi.blk, bi.sh + p, none⟩) n (c + bi.r) ∧ p + c * sz = bi.len) ∨ (n = 0 ∧ c = 0 ∧ v' = .slice (some ⟨bi.blk, bi.sh + bi.len, none⟩) 0 bi.r) ∨ (n = 0 ∧ c = 0 ∧ ∃ q, v' = .slice (some ⟨bi.blk, q, none⟩) 0 0))
 | _, .flat _ h => by simp [flatV] at h
 | _, .sliceR _ _ _ _ _ bi h hz hs he => ⟨bi, h, hz, hs, .inl ⟨rfl, he⟩⟩
 | _, .sliceN _ _ _ bi h hz hs => ⟨bi, h, hz, hs, .inr (.inl ⟨rfl, rfl, rfl⟩)⟩
 | _, .sliceZ _ _ _ q bi h hz hs => ⟨bi, h, hz, hs, .inr (.inr ⟨rfl, rfl, q, rfl⟩)⟩
theorem mk_grown {μ : Mu} {b n r sz B q : Nat} (h : μ b = some ⟨B, q, n * sz, r, sz⟩) (hz : 0 < sz) : VRel μ (.slice (some ⟨b, 0, some sz⟩) n n) (.slice (some ⟨B, q, none⟩) n (n + r)) := by
 have := VRel.sliceR (μ := μ) b 0 n n sz ⟨B, q, n * sz, r, sz⟩ h hz rfl (by simp)
 simpa using this
theorem eop_append {t u : TypeId} {c : Call} {s x : Operand} {σ : Mem} {cmd : MCmd} (ho : o.op = .call c) (hc : c.callee = .builtin .append) (ha : c.args = #[s, x]) (ht : c.argTypes = #[t, u]) (h : appendF G P σ t u (ρ s) (ρ x) = some (v, cmd)) : EOp G P o ρ σ v (cmd.app σ) := by
  have hops : ∀ y, y = s ∨ y = x → y ∈ (Op.call c).operands := fun y hy => by
    simp only [Op.operands, Call.operands, hc, ha]
    rcases hy with rfl | rfl <;> simp
  unfold appendF at h
  try simp only [uT_eq, iT_eq] at h
  split at h
  · rename_i e d hu hd
    · skip
      split at h
      · rename_i i hi
        split at h
        · rename_i z hz
          split at h
          · rename_i hzs
            obtain ⟨hz1, hz2⟩ := hzs
            have hsz : sizeT P e = some i.size := by simp [sizeT, hi]
            split at h
            · rename_i n xs hsrc
              have hlx := srcG_len hsrc
              split at h
              · -- nothing is appended
                rename_i hn
                subst hn
                have key : ∀ (base : Option Addr) (l cp : Nat), l ≤ cp → ∀ (w : World) (a : Act) (μ : Mu), Sim G μ σ w → ORel μ ρ a.eval (Op.call c).operands → a.eval s = .slice base l cp → (execOp a.eval o).run P w = .ok (.value (.slice base l cp)) w := fun base l cp hle w a μ hs hor es => by
                  obtain ⟨xs', g2, g3, g4⟩ := srcG_rel (P := P) hd hs hs (hor x (hops x (.inr rfl))) hsrc
                  refine wp_append ho hc ha ht ?_
                  have hx0 : xs' = [] := by have : xs'.length = 0 := by omega
                                            exact List.eq_nil_of_length_eq_zero this
                  subst hx0
                  rw [es]
                  exact append_room hu hi hz g3 (by omega) (fun b _ => by simp [storeCells]) (fun _ => rfl)
                split at h
                · rename_i hsv
                  cases h
                  refine ⟨Nat.le_refl _, fun μ w a hs hG _ hor K Q k rd => ?_⟩
                  rw [ho] at hor
                  have hv := hor s (hops s (.inl rfl))
                  have es : a.eval s = .slice none 0 0 := by rw [hsv] at hv; exact flatV_eq rfl hv
                  exact wp_of_value (key none 0 0 (Nat.le_refl _) w a μ hs hor es) (k _ w μ (Stp.refl hs hG) (by rw [← es]; exact hv))
                · rename_i b p sp l cp hsv
                  split at h
                  · rename_i hle
                    cases h
                    refine ⟨Nat.le_refl _, fun μ w a hs hG _ hor K Q k rd => ?_⟩
                    rw [ho] at hor
                    have hv := hor s (hops s (.inl rfl))
                    have hv' := hv
                    rw [hsv] at hv'
                    obtain ⟨bi, q, c', hb, es, hcc, _⟩ := hv'.slice_inv
                    exact wp_of_value (key _ l c' (by omega) w a μ hs hor es) (k _ w μ (Stp.refl hs hG) (by rw [← es]; exact hv))
                  · cases h
                · cases h
              · rename_i hn
                split at h
                · -- onto nil
                  rename_i hsv
                  split at h
                  · rename_i hb
                    cases h
                    refine ⟨by simp [MCmd.app, Mem.push], fun μ w a hs hG hf hor K Q k rd => ?_⟩
                    rw [ho] at hor
                    have hv := hor s (hops s (.inl rfl))
                    rw [hsv] at hv
                    have es := flatV_eq rfl hv
                    obtain ⟨xs', g2, g3, g4⟩ := srcG_rel (P := P) hd hs (wd := w.drew) (hs.drawn rfl) (hor x (hops x (.inr rfl))) hsrc
                    obtain ⟨cap, hcap, hrun⟩ := append_grow (P := P) (t := t) (u := u) (ty := o.type) (base := none) (l := 0) (c := 0) (old := #[]) hu hi hz g3 rfl (by omega) (by omega) (by simp; omega)
                    rw [← es] at hrun
                    have hn0 := hf σ.next (Nat.le_refl _) (by simp [MCmd.app, Mem.push])
                    have st := grow_new (cap := cap) (e := e) hs hG hn0 hz2 hlx g2 hz1 (by omega) g4
                    refine wp_of_value (wp_append ho hc ha ht hrun) (k _ _ (μ.add σ.next ⟨w.heap.size, 0, n * i.size, cap - n, i.size⟩) ?_ ?_)
                    · simp only [Nat.zero_add, Array.empty_append]
                      exact st
                    · have := mk_grown (μ := μ.add σ.next ⟨w.heap.size, 0, n * i.size, cap - n, i.size⟩) (Mu.add_at _ _ _) hz2
                      simp only [Nat.zero_add]
                      rw [show n + (cap - n) = cap by omega] at this
                      exact this
                  · cases h
                · rename_i b p sp l cp hsv
                  split at h
                  · rename_i r hr
                    split at h
                    · rename_i hroom
                      split at h
                      · -- there is room
                        rename_i hb
                        obtain ⟨hb1, hb2, hb3⟩ := hb
                        cases h
                        refine ⟨Nat.le_refl _, fun μ w a hs hG hf hor K Q k rd => ?_⟩
                        rw [ho] at hor
                        have hv := hor s (hops s (.inl rfl))
                        rw [hsv] at hv
                        obtain ⟨xs', g2, g3, g4⟩ := srcG_rel (P := P) hd hs hs (hor x (hops x (.inr rfl))) hsrc
                        have inv : ∃ bi c', μ b = some bi ∧ a.eval s = .slice (some ⟨bi.blk, bi.sh + p, none⟩) l c' ∧ cp ≤ c' ∧ VRel μ (.slice (some ⟨b, p, sp⟩) (l + n) cp) (.slice (some ⟨bi.blk, bi.sh + p, none⟩) (l + n) c') := by
                          cases sp with
                          | none =>
                            obtain ⟨bi, h', e'⟩ := hv.sliceE_inv
                            exact ⟨bi, _, h', e', Nat.le_refl _, .sliceE _ _ _ _ bi h'⟩
                          | some sz =>
                            obtain ⟨bi, h', k1, k2, ⟨e', k3⟩ | ⟨k4, k5, _⟩ | ⟨k4, k5, _⟩⟩ := hv.sliceG_inv
                            · exact ⟨bi, _, h', e', by omega, .sliceR _ _ _ _ _ bi h' k1 k2 k3⟩
                            · omega
                            · omega
                        obtain ⟨bi, c', hbi, es, hcc, hvv⟩ := inv
                        obtain ⟨w', hrun, hst⟩ := Stp.write (P := P) hs hG hb1 hr hbi (p := p + l * i.size) (vs := xs) (vs' := xs') hb2 g2 g4 (fun y hy => List.all_eq_true.1 hb3 y hy)
                        have hrun2 := append_room (P := P) (t := t) (u := u) (ty := o.type) (base := some ⟨bi.blk, bi.sh + p, none⟩) (l := l) (c := c') hu hi hz g3 (by omega) (w' := w') (fun b' hb' => by cases hb'; rw [add_none, Nat.add_assoc]; simpa using hrun) (fun hb' => by cases hb')
                        rw [← es] at hrun2
                        exact wp_of_value (wp_append ho hc ha ht hrun2) (k _ _ μ hst hvv)
                      · cases h
                    · rename_i hroom
                      split at h
                      · rename_i hbd
                        obtain ⟨hbd1, hbd2, hbd3⟩ := hbd
                        have holdlen : ((r.cs.drop p).take (l * i.size)).length = l * i.size := by simp; omega
                        have hnewlen : ((r.cs.drop p).take (l * i.size) ++ xs).length = (l + n) * i.size := by simp only [List.length_append, holdlen, hlx, Nat.add_mul]
                        -- what the old cells read as
                        have olds : ∀ {μ : Mu} {w : World} {bi : BI}, Sim G μ σ w → μ b = some bi → ∀ (cpc : Nat), ∃ os' : List Value, os'.length = l * i.size ∧ (Builtin.firstCells i.size l (.slice (some ⟨bi.blk, bi.sh + p, none⟩) l cpc)).run P w = .ok os'.toArray w ∧ ∀ (j : Nat) y y', ((r.cs.drop p).take (l * i.size))[j]? = some y → os'[j]? = some y' → VRel μ y y' := fun {μ w bi} hs hbi cpc => by
                          have hcin : CellsIn w μ b p ((r.cs.drop p).take (l * i.size)) := CellsIn.of_row hs hbi hr fun j v hv => by
                            rw [List.getElem?_take] at hv
                            split at hv
                            · rw [List.getElem?_drop] at hv; exact hv
                            · cases hv
                          obtain ⟨bi', cs', hb', hl', hcell, hrel⟩ := cells_of hcin
                          rw [hbi] at hb'
                          cases hb'
                          refine ⟨cs', by rw [hl', holdlen], ?_, hrel⟩
                          have := run_loadCells_list (P := P) w ⟨bi.blk, bi.sh + p, none⟩ cs' hcell
                          rw [hl', holdlen] at this
                          exact this
                        -- a new block
                        have fresh : ∀ {μ : Mu} {w : World} {a : Act} {base : Addr} {cpc : Nat} {os' : List Value} {K : Act → World → Prop} {Q : Exit → Act → World → Prop} {rd : Option Nat} {σ1 : Mem}, Sim G μ σ w → G ≤ σ.next → σ1.next = σ.next → Stp G σ μ w σ1 μ w → μ σ.next = none → ORel μ ρ a.eval (Op.call c).operands → a.eval s = .slice (some base) l cpc → cpc < l + n → os'.length = l * i.size → (Builtin.firstCells i.size l (.slice (some base) l cpc)).run P w.drew = .ok os'.toArray w.drew → (∀ (j : Nat) y y', ((r.cs.drop p).take (l * i.size))[j]? = some y → os'[j]? = some y' → VRel μ y y') →
                            (∀ vc w' μ', Stp G σ μ w (σ1.push (.row ⟨(r.cs.drop p).take (l * i.size) ++ xs, e, true⟩)) μ' w' → VRel μ' (.slice (some ⟨σ.next, 0, some i.size⟩) (l + n) (l + n)) vc → K (a.put o.dst vc) w') → o.wpIn (FW rd) 0 P a w K Q := fun {μ w a base cpc os' K Q rd σ1} hs hG hσ1 hst1 hn0 hor es hlt hol hof hrel k => by
                          obtain ⟨xs', g2, g3, g4⟩ := srcG_rel (P := P) hd hs (wd := w.drew) (hs.drawn rfl) (hor x (hops x (.inr rfl))) hsrc
                          obtain ⟨cap, hcap, hrun⟩ := append_grow (P := P) (t := t) (u := u) (ty := o.type) (base := some base) (l := l) (c := cpc) hu hi hz g3 hof hlt (by omega) (by omega)
                          rw [← es] at hrun
                          have st := grow_new (G := G) (σ := σ1) (cap := cap) (e := e) (xs' := os' ++ xs') hst1.sim (by omega) (by rw [hσ1]; exact hn0) hz2 hnewlen (by simp [hol, g2, holdlen]) hz1 hcap (fun j y y' h1 h2 => by
                            rw [List.getElem?_append] at h1 h2
                            rw [hol] at h2
                            rw [holdlen] at h1
                            split at h1
                            · rename_i hj; rw [if_pos hj] at h2; exact hrel j y y' h1 h2
                            · rename_i hj; rw [if_neg hj] at h2; exact g4 _ y y' h1 h2)
                          rw [hσ1] at st
                          refine wp_of_value (wp_append ho hc ha ht hrun) (k _ _ (μ.add σ.next ⟨w.heap.size, 0, (l + n) * i.size, cap - (l + n), i.size⟩) (hst1.trans ?_) ?_)
                          · have hap : (os' ++ xs').toArray = os'.toArray ++ xs'.toArray := by simp
                            rw [hap] at st
                            exact st
                          · have := mk_grown (μ := μ.add σ.next ⟨w.heap.size, 0, (l + n) * i.size, cap - (l + n), i.size⟩) (Mu.add_at _ _ _) hz2
                            rw [show l + n + (cap - (l + n)) = cap by omega] at this
                            exact this
                        split at h
                        · -- the capacity is known
                          cases h
                          refine ⟨by simp [MCmd.app, Mem.push], fun μ w a hs hG hf hor K Q k rd => ?_⟩
                          rw [ho] at hor
                          have hv := hor s (hops s (.inl rfl))
                          rw [hsv] at hv
                          obtain ⟨bi, hbi, es⟩ := hv.sliceE_inv
                          obtain ⟨os', ho1, ho2, ho3⟩ := olds (w := w.drew) (hs.drawn rfl) hbi cp
                          exact fresh hs hG rfl (Stp.refl hs hG) (hf σ.next (Nat.le_refl _) (by simp [MCmd.app, Mem.push])) hor es (by omega) ho1 ho2 ho3 k
                        · rename_i sz
                          split at h
                          · -- it is not
                            rename_i hb
                            obtain ⟨rfl, hb1, hb2, hb3⟩ := hb
                            cases h
                            refine ⟨by simp [MCmd.app, Mem.push, Mem.kill], fun μ w a hs hG hf hor K Q k rd => ?_⟩
                            rw [ho] at hor
                            have hv := hor s (hops s (.inl rfl))
                            rw [hsv] at hv
                            have hn0 : μ σ.next = none := hf σ.next (Nat.le_refl _) (by simp [MCmd.app, Mem.push, Mem.kill])
                            have hkill := Stp.kill (G := G) hs hG b
                            -- in its own block
                            have inplace : ∀ {bi : BI} {q cc' : Nat}, μ b = some bi → bi.sz = i.size → a.eval s = .slice (some ⟨bi.blk, q, none⟩) l cc' → l + n ≤ cc' → q + cc' * i.size = bi.sh + bi.len + bi.r * bi.sz → (l ≠ 0 → q = bi.sh + p) → o.wpIn (FW rd) 0 P a w K Q := fun {bi q cc'} hbi hbs es hle hqq hq => by
                              have hin := hs.blk b _ bi hr hbi
                              obtain ⟨cc, fz, t', hh, hfz', hcv⟩ := hin.lie
                              obtain ⟨rfl, hfz, hcs, hgr⟩ := hfz' (hs.rw_ b _ bi hb1 hr hbi)
                              obtain ⟨xs', g2, g3, g4⟩ := srcG_rel (P := P) hd hs hs (hor x (hops x (.inr rfl))) hsrc
                              obtain ⟨w', hrun, hst⟩ := regrow_in (P := P) hs hG hn0 hb1 hr hbi (q := q) (cc' := cc') (l := l) (n := n) (size := i.size) (old := (r.cs.drop p).take (l * i.size)) (xs := xs) (xs' := xs') hz2 hh hfz (by omega) hle holdlen hlx g2 (fun j y hj => by
                                have hjl : j < l * i.size := by have := (List.getElem?_eq_some_iff.1 hj).1; omega
                                have hl0 : l ≠ 0 := fun e0 => by rw [e0] at hjl; simp at hjl
                                rw [List.getElem?_take, if_pos hjl, List.getElem?_drop] at hj
                                obtain ⟨y', h2, h3⟩ := hcv _ y hj
                                exact ⟨y', by rw [hq hl0, Nat.add_assoc]; exact h2, h3⟩) g4 (fun y hy => List.all_eq_true.1 hb3 y hy)
                              have hrun2 := append_room (P := P) (t := t) (u := u) (ty := o.type) (base := some ⟨bi.blk, q, none⟩) (l := l) (c := cc') hu hi hz g3 hle (w' := w') (fun b' hb' => by cases hb'; simpa using hrun) (fun hb' => by cases hb')
                              rw [← es] at hrun2
                              rw [hb2] at hst
                              refine wp_of_value (wp_append ho hc ha ht hrun2) (k _ _ _ hst ?_)
                              have := mk_grown (μ := μ.add σ.next ⟨bi.blk, q, (l + n) * i.size, cc' - (l + n), i.size⟩) (Mu.add_at _ _ _) hz2
                              rw [show l + n + (cc' - (l + n)) = cc' by omega] at this
                              exact this
                            obtain ⟨bi, h', k1, k2, ⟨hy, k3⟩ | ⟨rfl, rfl, hy⟩ | ⟨rfl, rfl, q, hy⟩⟩ := hv.sliceG_inv
                            · by_cases hle : l + n ≤ cp + bi.r
                              · refine inplace h' k2 hy hle ?_ (fun _ => rfl)
                                rw [Nat.add_mul, k2]
                                omega
                              · obtain ⟨os', ho1, ho2, ho3⟩ := olds (w := w.drew) (hs.drawn rfl) h' (cp + bi.r)
                                exact fresh (σ1 := σ.kill b) hs hG rfl hkill hn0 hor hy (by omega) ho1 ho2 ho3 k
                            · by_cases hle : 0 + n ≤ bi.r
                              · refine inplace h' k2 hy hle ?_ (fun h => absurd rfl h)
                                rw [k2]
                              · exact fresh (σ1 := σ.kill b) (os' := []) hs hG rfl hkill hn0 hor hy (by omega) (by simp) (by simp [Builtin.firstCells, loadCells, loadCellsFrom]) (by simp) k
                            · exact fresh (σ1 := σ.kill b) (os' := []) hs hG rfl hkill hn0 hor hy (by omega) (by simp) (by simp [Builtin.firstCells, loadCells, loadCellsFrom]) (by simp) k
                          · cases h
                      · cases h
                  · cases h
                · cases h
            · cases h
          · cases h
        · cases h
      · cases h
  · cases h
end Go.Proofs.YtjcmdifpkafdkaaDoor
namespace Go.Proofs.YtjcmdifpkafdkaaDoor
variable {P : Program} {G : Nat} {nt : Nat} {o : Oper} {ρ : Operand → Value} {v : Value}

def nextF (s : ByteArray) (pos : Nat) : Value × Nat :=
 if pos < s.size then (.tuple #[.bool true, .int .i64 pos, .int .i32 (Utf8.decode s pos).1], pos + (Utf8.decode s pos).2) else (.tuple #[.bool false], pos)
theorem eop_next {it : Operand} {b pos : Nat} {s : ByteArray} {σ : Mem} (ho : o.op = .next it true) (hi : ρ it = .pointer (some ⟨b, 0, none⟩)) (hb : G ≤ b) (hx : σ.get b = some (.iter s pos)) : EOp G P o ρ σ (nextF s pos).1 (σ.put b (.iter s (nextF s pos).2)) := by
 refine ⟨Nat.le_refl _, fun μ w a hs hG _ hor K Q k rd => ?_⟩
 rw [ho] at hor
 have hv := hor it (by simp [Op.operands])
 rw [hi] at hv
 obtain ⟨bi, hm, e⟩ := hv.ptr_inv
 obtain ⟨hin, hsh⟩ := hs.blk b _ bi hx hm
 rw [hsh, Nat.zero_add] at e
 by_cases hp : pos < s.size
 ·have st := Stp.setObj (o := .stringIter s (pos + (Utf8.decode s pos).2)) (y := .iter s (pos + (Utf8.decode s pos).2)) hs hG hb hx hm (fun w' hw => ⟨hw, hsh⟩)
  have e1 : nextF s pos = (.tuple #[.bool true, .int .i64 pos, .int .i32 (Utf8.decode s pos).1], pos + (Utf8.decode s pos).2) := by simp [nextF, hp]
  rw [e1] at k
  refine wp_of_value ?_ (k _ _ μ st (closedV_rel μ 2 (.tuple #[.bool true, .int .i64 pos, .int .i32 (Utf8.decode s pos).1]) (by simp [closedV, flatV])))
  unfold execOp
  simp [ho, Instr.next, e, getObj_run hin, setObj_run hin, hp, goInt]
 ·have st := Stp.turn (y := .iter s pos) hs hG hb hx hm ⟨hin, hsh⟩ rfl rfl rfl rfl (fun B _ => rfl)
  have e1 : nextF s pos = (.tuple #[.bool false], pos) := by simp [nextF, hp]
  rw [e1] at k
  refine wp_of_value ?_ (k _ _ μ st (closedV_rel μ 2 (.tuple #[.bool false]) (by simp [closedV, flatV])))
  unfold execOp
  simp [ho, Instr.next, e, getObj_run hin, hp]

noncomputable def convF (P : Program) (src dst : TypeId) (s : ByteArray) : Option (TypeId × List Value) :=
 match uT P src, uT P dst with
 | some .string, some (.slice e) => (match uT P e with
  | some (.int .u8) => some (e, s.data.toList.map byteV)
  | some (.int .i32) => if (Conv.runesFrom s s.size 0 #[]).size ≤ 1000000 then some (e, (Conv.runesFrom s s.size 0 #[]).toList) else none
  | _ => none)
 | _, _ => none
theorem runesFrom_closed (s : ByteArray) : ∀ (n i : Nat) (acc : Array Value), (∀ x ∈ acc.toList, flatV x = true) → ∀ x ∈ (Conv.runesFrom s n i acc).toList, flatV x = true := by
 intro n
 induction n with
 | zero => intro i acc h; exact h
 | succ n ih =>
  intro i acc h
  simp only [Conv.runesFrom]
  split
  ·refine ih _ _ fun x hx => ?_
   simp at hx
   rcases hx with hx | rfl
   ·exact h x (by simpa using hx)
   ·rfl
  ·exact h
theorem eop_conv {src dst e : TypeId} {x : Operand} {s : ByteArray} {cs : List Value} {σ : Mem} (ho : o.op = .convert src dst x) (hx : ρ x = .string s) (h : convF P src dst s = some (e, cs)) : EOp G P o ρ σ (.slice (some ⟨σ.next, 0, some 1⟩) cs.length cs.length) (σ.push (.row ⟨cs, e, true⟩)) := by
 refine ⟨by simp [Mem.push], fun μ w a hs hG hf hor K Q k rd => ?_⟩
 rw [ho] at hor
 have hv := hor x (by simp [Op.operands])
 rw [hx] at hv
 have ev := flatV_eq rfl hv
 have hn0 := hf σ.next (Nat.le_refl _) (by simp [Mem.push])
 unfold convF at h
 try simp only [uT_eq] at h
 split at h
 ·rename_i e' hu hd
  split at h
  ·rename_i he
   cases h
   have hrun := run_bytes_of_string (P := P) w src dst e s hu hd he
   have hcap := grownCap_ge w s.size 0 e
   generalize grownCap w s.size 0 e = cap at hrun hcap
   have hlen : (s.data.toList.map byteV).length = s.size := by rw [List.length_map, Array.length_toList]; rfl
   have hrow : (bytesRow s cap).size = cap := by
    have h1 : s.data.size = s.size := rfl
    simp only [bytesRow, Array.size_append, Array.size_map, Array.size_replicate, h1]
    omega
   rw [hlen] at k
   have st := Stp.grow (x := .row ⟨s.data.toList.map byteV, e, true⟩) (bi := ⟨w.heap.size, 0, s.size, cap - s.size, 1⟩) (w' := w.drew.alloc (.cells (bytesRow s cap) e ((bytesRow s cap).size, (bytesRow s cap).size + 1))) hs hG hn0 rfl (by simp) (by simp) rfl rfl rfl (fun B hB => RowKit.Below.heap_alloc w.drew _ _ hB) (fun μ' he' => by
    refine ⟨hlen, bytesRow s cap, ((bytesRow s cap).size, (bytesRow s cap).size + 1), e, (by show (w.heap.push _)[w.heap.size]? = _; simp), fun _ => ⟨rfl, .inr (Nat.le_refl _), by rw [hrow]; simp; omega, fun h => by cases h⟩, fun i y hy => ?_⟩
    have hi : i < s.size := by rw [← hlen]; exact (List.getElem?_eq_some_iff.1 hy).1
    refine ⟨y, ?_, ?_⟩
    ·simp only [Nat.zero_add, bytesRow]
     rw [Array.getElem?_append_left (by rw [Array.size_map]; exact hi)]
     rw [Array.getElem?_map]
     simp only [List.getElem?_map, Array.getElem?_toList] at hy
     exact hy
    ·simp only [List.getElem?_map] at hy
     cases hb : s.data.toList[i]? with
     | none => rw [hb] at hy; cases hy
     | some u => rw [hb] at hy; cases hy; exact .flat _ rfl)
   refine wp_of_value (v := .slice (some ⟨w.heap.size, 0, none⟩) s.size cap) ?_ (k _ _ _ st ?_)
   ·unfold execOp
    simp only [ho, Sem.run_bind, ev, hrun, Result.andThen_ok]
    rfl
   ·have := mk_grown (μ := μ.add σ.next ⟨w.heap.size, 0, s.size, cap - s.size, 1⟩) (b := σ.next) (n := s.size) (r := cap - s.size) (sz := 1) (B := w.heap.size) (q := 0) (by rw [Mu.add_at, Nat.mul_one]) (by omega)
    rw [show s.size + (cap - s.size) = cap by omega] at this
    exact this
  ·rename_i he
   split at h
   ·rename_i h46
    cases h
    generalize hrs : Conv.runesFrom s s.size 0 #[] = rs at h46
    have hrun := run_runes_of_string (P := P) w src dst e s hu hd he (by rw [hrs]; omega)
    rw [hrs] at hrun
    have hcap := grownCap_ge w rs.size 0 e
    generalize grownCap w rs.size 0 e = cap at hrun hcap
    have hflat : ∀ x ∈ rs.toList, flatV x = true := by rw [← hrs]; exact runesFrom_closed s _ _ _ (by simp)
    have hlen : rs.toList.length = rs.size := by simp
    rw [hrs, hlen] at k
    have st := Stp.grow (x := .row ⟨rs.toList, e, true⟩) (bi := ⟨w.heap.size, 0, rs.size, cap - rs.size, 1⟩) (w' := w.drew.alloc (.cells (rs ++ Array.replicate (cap - rs.size) (.int .i32 0)) e)) hs hG hn0 rfl (by simp) (by simp) rfl rfl rfl (fun B hB => RowKit.Below.heap_alloc w.drew _ _ hB) (fun μ' he' => by
     refine ⟨hlen, rs ++ Array.replicate (cap - rs.size) (.int .i32 0), (0, 0), e, (by show (w.heap.push _)[w.heap.size]? = _; simp), fun _ => ⟨rfl, .inl rfl, by simp, fun h => by cases h⟩, fun i y hy => ?_⟩
     have hi : i < rs.size := by rw [← hlen]; exact (List.getElem?_eq_some_iff.1 hy).1
     refine ⟨y, ?_, .flat y (hflat y (List.mem_of_getElem? hy))⟩
     simp only [Nat.zero_add]
     rw [Array.getElem?_append_left hi]
     simpa using hy)
    refine wp_of_value (v := .slice (some ⟨w.heap.size, 0, none⟩) rs.size cap) ?_ (k _ _ _ st ?_)
    ·unfold execOp
     simp only [ho, Sem.run_bind, ev, hrun, Result.andThen_ok]
     rfl
    ·have := mk_grown (μ := μ.add σ.next ⟨w.heap.size, 0, rs.size, cap - rs.size, 1⟩) (b := σ.next) (n := rs.size) (r := cap - rs.size) (sz := 1) (B := w.heap.size) (q := 0) (by rw [Mu.add_at, Nat.mul_one]) (by omega)
     rw [show rs.size + (cap - rs.size) = cap by omega] at this
     exact this
   ·cases h
  ·cases h
 ·cases h
def numsF (k : IntKind) : List Value → Option (List Int)
 | [] => some []
 | .int k' n :: l => if k' = k then (match numsF k l with | some ns => some (n :: ns) | none => none) else none
 | _ :: _ => none
theorem numsF_eq {k : IntKind} : ∀ {l : List Value} {ns : List Int}, numsF k l = some ns → l = ns.map (Value.int k)
 | [], ns, h => by cases h; rfl
 | .int k' n :: l, ns, h => by
  simp only [numsF] at h
  split at h
  ·rename_i hk
   split at h
   ·rename_i ns' h'
    cases h
    rw [hk, numsF_eq h']
    rfl
   ·cases h
  ·cases h
 | .bool _ :: _, _, h | .float _ _ :: _, _, h | .complex _ _ _ :: _, _, h | .string _ :: _, _, h | .pointer _ :: _, _, h | .slice _ _ _ :: _, _, h | .map _ :: _, _, h | .chan _ :: _, _, h | .func _ _ _ :: _, _, h | .nilFunc :: _, _, h | .iface _ _ :: _, _, h | .nilIface :: _, _, h | .agg _ :: _, _, h | .tuple _ :: _, _, h => by simp [numsF] at h
noncomputable def backF (P : Program) (src dst : TypeId) (cs : List Value) : Option ByteArray :=
 match uT P src, uT P dst with
 | some (.slice e), some .string => (match uT P e with
  | some (.int .u8) => (numsF .u8 cs).map fun ns => ns.foldl (fun r n => r.push (UInt8.ofNat n.toNat)) ByteArray.empty
  | some (.int .i32) => (numsF .i32 cs).map runesBytes
  | _ => none)
 | _, _ => none
theorem lop_back {src dst : TypeId} {x : Operand} {b p n c : Nat} {sp : Option Nat} {cs : List Value} {s : ByteArray} (ho : o.op = .convert src dst x) (hx : ρ x = .slice (some ⟨b, p, sp⟩) n c) (hn : n ≠ 0) (hl : cs.length = n) (h : backF P src dst cs = some s) : LOp P o ρ b p cs (.string s) ∧ ∀ μ ρc, ORel μ ρ ρc o.op.operands → ∃ bi, μ b = some bi := by
 have inv : ∀ {μ : Mu} {ρc : Operand → Value}, ORel μ ρ ρc o.op.operands → ∃ bi c', μ b = some bi ∧ ρc x = .slice (some ⟨bi.blk, bi.sh + p, none⟩) n c' := fun {μ ρc} hor => by
  rw [ho] at hor
  have hv := hor x (by simp [Op.operands])
  rw [hx] at hv
  obtain ⟨bi, q, c', hb, e, _, hq⟩ := hv.slice_inv
  exact ⟨bi, c', hb, by rw [e, hq hn]⟩
 refine ⟨fun μ ρc w hor hc => ?_, fun μ ρc hor => let ⟨bi, _, hb, _⟩ := inv hor; ⟨bi, hb⟩⟩
 obtain ⟨bi, c', hb, e⟩ := inv hor
 obtain ⟨bi', cs', hb', hl', hcell, hrel⟩ := cells_of hc
 rw [hb] at hb'
 cases hb'
 refine ⟨.string s, .flat _ rfl, ?_⟩
 have hload := run_loadCells_list (P := P) w ⟨bi.blk, bi.sh + p, none⟩ cs' hcell
 rw [hl', hl] at hload
 have same : ∀ {k : IntKind} {ns : List Int}, numsF k cs = some ns → cs' = ns.map (Value.int k) := fun {k ns} hk => by
  have hcs := numsF_eq hk
  apply List.ext_getElem?
  intro i
  rcases Nat.lt_or_ge i cs.length with hi | hi
  ·have hi' : i < cs'.length := by omega
   have := hrel i cs[i] cs'[i] (by simp [hi]) (by simp [hi'])
   have hf : cs'[i] = cs[i] := flatV_eq (by simp only [hcs, List.getElem_map]; rfl) this
   rw [List.getElem?_eq_getElem hi', hf, ← List.getElem?_eq_getElem hi, hcs]
  ·rw [List.getElem?_eq_none (by omega), ← hcs, List.getElem?_eq_none hi]
 unfold backF at h
 try simp only [uT_eq] at h
 split at h
 ·rename_i e' hu hd
  split at h
  ·rename_i he
   simp only [Option.map_eq_some_iff] at h
   obtain ⟨ns, hns, rfl⟩ := h
   rw [same hns] at hload
   unfold execOp
   simp only [ho, Sem.run_bind, e, run_convert_bytes_string w src dst e' _ _ _ hu he hd, run_bytesToString w _ n c' ns hload, Result.andThen_ok]
   rfl
  ·rename_i he
   simp only [Option.map_eq_some_iff] at h
   obtain ⟨ns, hns, rfl⟩ := h
   rw [same hns] at hload
   unfold execOp
   simp only [ho, Sem.run_bind, e, run_convert_runes_string w src dst e' _ _ _ hu he hd, run_runesToString w _ n c' ns hload, Result.andThen_ok]
   rfl
  ·cases h
 ·cases h
theorem vop_back0 {src dst : TypeId} {x : Operand} {b p c : Nat} {sp : Option Nat} {s : ByteArray} (ho : o.op = .convert src dst x) (hx : ρ x = .slice (some ⟨b, p, sp⟩) 0 c) (h : backF P src dst [] = some s) : VOp P o ρ (.string s) := fun μ ρc hor => by
 rw [ho] at hor
 have hv := hor x (by simp [Op.operands])
 rw [hx] at hv
 obtain ⟨bi, q, c', hb, e, _, _⟩ := hv.slice_inv
 refine ⟨.string s, .flat _ rfl, fun w => ?_⟩
 have hload := run_loadCells_list (P := P) w ⟨bi.blk, q, none⟩ [] (by simp)
 simp only [List.length_nil] at hload
 unfold backF at h
 try simp only [uT_eq] at h
 split at h
 ·rename_i e' hu hd
  split at h
  ·rename_i he
   simp only [Option.map_eq_some_iff] at h
   obtain ⟨ns, hns, rfl⟩ := h
   cases hns
   unfold execOp
   simp only [ho, Sem.run_bind, e, run_convert_bytes_string w src dst e' _ _ _ hu he hd, run_bytesToString w _ 0 c' [] hload, Result.andThen_ok]
   rfl
  ·rename_i he
   simp only [Option.map_eq_some_iff] at h
   obtain ⟨ns, hns, rfl⟩ := h
   cases hns
   unfold execOp
   simp only [ho, Sem.run_bind, e, run_convert_runes_string w src dst e' _ _ _ hu he hd, run_runesToString w _ 0 c' [] hload, Result.andThen_ok]
   rfl
  ·cases h
 ·cases h
theorem src_rel_le {σ : Mem} {μ : Mu} {w : World} (hs : Sim G μ σ w) {size n m : Nat} {x x' : Value} {xs : List Value} (hx : VRel μ x x') (h : srcF σ size x = some (n, xs)) (hm : m ≤ n) :
    ∃ xs' : List Value, xs'.length = m * size ∧ (Builtin.firstCells size m x').run P w = .ok xs'.toArray w ∧ ∀ (i : Nat) y y', (xs.take (m * size))[i]? = some y → xs'[i]? = some y' → VRel μ y y' := by
  have hl := srcF_len h
  unfold srcF at h
  split at h
  · rename_i s
    split at h
    · rename_i hsz
      cases h
      have e := flatV_eq rfl hx
      subst e hsz
      have hlen : ((s.data.toList.map byteV).take (m * 1)).length = m * 1 := by
        rw [List.length_take, List.length_map, Array.length_toList]
        have : s.data.size = s.size := rfl
        omega
      refine ⟨(s.data.toList.map byteV).take (m * 1), hlen, ?_, fun i y y' h1 h2 => ?_⟩
      · simp only [Builtin.firstCells, Sem.run_pure]
        congr 1
        apply Array.ext'
        simp [ByteArray.data_extract]
        rfl
      · rw [h1] at h2
        cases h2
        have h3 := List.mem_of_mem_take (List.mem_of_getElem? h1)
        rw [List.mem_map] at h3
        obtain ⟨u, _, rfl⟩ := h3
        exact .flat _ rfl
    · cases h
  · cases h
    have e := flatV_eq rfl hx
    subst e
    obtain rfl : m = 0 := by omega
    exact ⟨[], by simp, rfl, by simp⟩
  · rename_i b p sp n' c
    obtain ⟨bi, q, c', hb, e, _, hq⟩ := hx.slice_inv
    subst e
    split at h
    · rename_i hn
      subst hn
      cases h
      obtain rfl : m = 0 := by omega
      exact ⟨[], by simp, by simp [Builtin.firstCells, loadCells, loadCellsFrom], by simp⟩
    · rename_i hn
      split at h
      · rename_i r hr
        split at h
        · rename_i hfit
          cases h
          have hq := hq hn
          subst hq
          have hmul : m * size ≤ n * size := Nat.mul_le_mul_right _ hm
          have hc : CellsIn w μ b p (((r.cs.drop p).take (n * size)).take (m * size)) := CellsIn.of_row hs hb hr fun i v hv => by
            rw [List.getElem?_take] at hv
            split at hv
            · rw [List.getElem?_take] at hv
              split at hv
              · rw [List.getElem?_drop] at hv; exact hv
              · cases hv
            · cases hv
          obtain ⟨bi', cs', hb', hl', hcell, hrel⟩ := cells_of hc
          rw [hb] at hb'
          cases hb'
          have hlen : cs'.length = m * size := by rw [hl', List.length_take, hl]; omega
          refine ⟨cs', hlen, ?_, hrel⟩
          simp only [Builtin.firstCells]
          have := run_loadCells_list (P := P) w ⟨bi.blk, bi.sh + p, none⟩ cs' hcell
          rw [hlen] at this
          exact this
        · cases h
      · cases h
  · cases h
    obtain ⟨A, rfl⟩ := hx.void_inv
    obtain rfl : m = 0 := by omega
    exact ⟨[], by simp, by simp [Builtin.firstCells, loadCells, loadCellsFrom], by simp⟩
  · cases h
noncomputable def copyF (G : Nat) (P : Program) (σ : Mem) (t : TypeId) (d x : Value) : Option (Value × MCmd) :=
  match uT P t, d with
  | some (.slice e), .slice (some ⟨b, p, _⟩) l _ => (match sizeT P e with
    | some size => (match srcF σ size x, σ.get b with
      | some (n, xs), some (.row r) => if Nat.min n l = 0 then some (.int .i64 0, .same) else
          if G ≤ b ∧ l ≠ 0 ∧ p + (xs.take (Nat.min n l * size)).length ≤ r.cs.length ∧ xs.all (·.oneCell') = true then some (.int .i64 (Nat.min n l), .put b (.row ⟨overL r.cs p (xs.take (Nat.min n l * size)), r.t, r.g⟩)) else none
      | _, _ => none)
    | none => none)
  | _, _ => none
theorem eop_copy {t u : TypeId} {c : Call} {d x : Operand} {σ : Mem} {cmd : MCmd} (ho : o.op = .call c) (hc : c.callee = .builtin .copy) (ha : c.args = #[d, x]) (ht : c.argTypes = #[t, u]) (h : copyF G P σ t (ρ d) (ρ x) = some (v, cmd)) : EOp G P o ρ σ v (cmd.app σ) := by
 have hops : ∀ y, y = d ∨ y = x → y ∈ (Op.call c).operands := fun y hy => by
  simp only [Op.operands, Call.operands, hc, ha]
  rcases hy with rfl | rfl <;> simp
 have runs : ∀ {a : Act} {w w' : World} {vc : Value}, (Builtin.copy_ #[t, u] o.type #[a.eval d, a.eval x]).run P w = .ok vc w' → (execOp a.eval o).run P w = .ok (.value vc) w' := fun {a w w' vc} hr => by
  unfold execOp
  simp only [ho, Sem.run_bind, resolve, hc, ha, ht, Result.andThen_ok, Sem.run_pure]
  simp [invoke, builtin, hr]
 unfold copyF at h
 try simp only [uT_eq] at h
 split at h
 ·rename_i e b p sp l cp hu hd
  split at h
  ·rename_i size hsz
   split at h
   ·rename_i n xs r hsrc hr
    have hlx := srcF_len hsrc
    split at h
    ·rename_i h0
     cases h
     refine ⟨Nat.le_refl _, fun μ w a hs hG _ hor K Q k rd => ?_⟩
     rw [ho] at hor
     have hv := hor d (hops d (.inl rfl))
     rw [hd] at hv
     obtain ⟨bi, q, c', hb, es, _, _⟩ := hv.slice_inv
     obtain ⟨g1, _⟩ := src_rel (P := P) hs (hor x (hops x (.inr rfl))) hsrc
     obtain ⟨xs', g2, g3, _⟩ := src_rel_le (P := P) hs (hor x (hops x (.inr rfl))) hsrc (m := Nat.min n l) (Nat.min_le_left _ _)
     rw [h0] at g2 g3
     have hx0 : xs' = [] := List.eq_nil_of_length_eq_zero (by simpa using g2)
     subst hx0
     refine wp_of_value (runs (w' := w) (vc := .int .i64 0) ?_) (k _ w μ (Stp.refl hs hG) (.flat _ rfl))
     simp [Builtin.copy_, run_underlying hu, sizeOf_run hsz, es, g1, h0, g3, storeCells, goInt]
    ·rename_i h0
     split at h
     ·rename_i hb
      obtain ⟨hb1, hb2, hb3, hb4⟩ := hb
      cases h
      refine ⟨Nat.le_refl _, fun μ w a hs hG _ hor K Q k rd => ?_⟩
      rw [ho] at hor
      have hv := hor d (hops d (.inl rfl))
      rw [hd] at hv
      obtain ⟨bi, q, c', hbi, es, _, hq⟩ := hv.slice_inv
      have hq := hq hb2
      subst hq
      obtain ⟨g1, _⟩ := src_rel (P := P) hs (hor x (hops x (.inr rfl))) hsrc
      obtain ⟨xs', g2, g3, g4⟩ := src_rel_le (P := P) hs (hor x (hops x (.inr rfl))) hsrc (m := Nat.min n l) (Nat.min_le_left _ _)
      have hlt : (xs.take (Nat.min n l * size)).length = Nat.min n l * size := by
       rw [List.length_take, hlx]
       exact Nat.min_eq_left (Nat.mul_le_mul_right _ (Nat.min_le_left _ _))
      obtain ⟨w', hrun, hst⟩ := Stp.write (P := P) hs hG hb1 hr hbi (p := p) (vs := xs.take (Nat.min n l * size)) (vs' := xs') hb3 (by rw [g2, hlt]) g4 (fun y hy => List.all_eq_true.1 hb4 y (List.mem_of_mem_take hy))
      refine wp_of_value (runs (w' := w') (vc := .int .i64 (Nat.min n l)) ?_) (k _ w' μ hst (.flat _ rfl))
      simp [Builtin.copy_, run_underlying hu, sizeOf_run hsz, es, g1, g3, hrun, goInt]
     ·cases h
   ·cases h
  ·cases h
 ·cases h
noncomputable def clearF (G : Nat) (P : Program) (σ : Mem) (t : TypeId) (x : Value) : Option MCmd :=
 match uT P t, x with
 | some (.slice _), .slice none _ _ => some .same
 | some (.slice e), .slice (some ⟨b, p, _⟩) n _ => if n = 0 then some .same else (match zeroT P e, σ.get b with
  | some z, some (.row r) => if G ≤ b ∧ closedV 2 z = true ∧ 0 < z.cells.size ∧ p + n * z.cells.size ≤ r.cs.length ∧ (Builtin.zeroCells z.cells n).toList.all (·.oneCell') = true then some (.put b (.row ⟨overL r.cs p (Builtin.zeroCells z.cells n).toList, r.t, r.g⟩)) else none
  | _, _ => none)
 | _, _ => none
theorem eop_clear {t : TypeId} {c : Call} {x : Operand} {σ : Mem} {cmd : MCmd} (ho : o.op = .call c) (hc : c.callee = .builtin .clear) (ha : c.args = #[x]) (ht : c.argTypes = #[t]) (h : clearF G P σ t (ρ x) = some cmd) : EOp G P o ρ σ undef (cmd.app σ) := by
 have hops : x ∈ (Op.call c).operands := by simp [Op.operands, Call.operands, hc, ha]
 have runs : ∀ {a : Act} {w w' : World} {vc : Value}, (Builtin.clear_ #[t] o.type #[a.eval x]).run P w = .ok vc w' → (execOp a.eval o).run P w = .ok (.value vc) w' := fun {a w w' vc} hr => by
  unfold execOp
  simp only [ho, Sem.run_bind, resolve, hc, ha, ht, Result.andThen_ok, Sem.run_pure]
  simp [invoke, builtin, hr]
 unfold clearF at h
 try simp only [uT_eq] at h
 split at h
 ·rename_i e n cp hu hx
  cases h
  refine ⟨Nat.le_refl _, fun μ w a hs hG _ hor K Q k rd => ?_⟩
  rw [ho] at hor
  have hv := hor x hops
  rw [hx] at hv
  have hv := flatV_eq rfl hv
  refine wp_of_value (runs (w' := w) (vc := undef) ?_) (k _ w μ (Stp.refl hs hG) (VRel.undef μ))
  simp [Builtin.clear_, run_underlying hu, hv, undef]
 ·rename_i e b p sp n cp hu hx
  split at h
  ·rename_i h0
   cases h
   subst h0
   refine ⟨Nat.le_refl _, fun μ w a hs hG _ hor K Q k rd => ?_⟩
   rw [ho] at hor
   have hv := hor x hops
   rw [hx] at hv
   obtain ⟨bi, q, c', hb, es, _, _⟩ := hv.slice_inv
   refine wp_of_value (runs (w' := w) (vc := undef) ?_) (k _ w μ (Stp.refl hs hG) (VRel.undef μ))
   simp [Builtin.clear_, run_underlying hu, es, undef]
  ·rename_i h0
   split at h
   ·rename_i z r hz hr
    split at h
    ·rename_i hb
     obtain ⟨hb1, hb2, hb3, hb4, hb5⟩ := hb
     cases h
     refine ⟨Nat.le_refl _, fun μ w a hs hG _ hor K Q k rd => ?_⟩
     rw [ho] at hor
     have hv := hor x hops
     rw [hx] at hv
     obtain ⟨bi, q, c', hbi, es, _, hq⟩ := hv.slice_inv
     have hq := hq h0
     subst hq
     have hrel := zeros_rel (μ := μ) (closedV_rel μ 2 z hb2).cells hb3 (n * z.cells.size)
     have hl : (Builtin.zeroCells z.cells n).toList.length = n * z.cells.size := by simp [Builtin.zeroCells]
     obtain ⟨w', hrun, hst⟩ := Stp.write (P := P) hs hG hb1 hr hbi (p := p) (vs := (Builtin.zeroCells z.cells n).toList) (vs' := (Builtin.zeroCells z.cells n).toList) (by rw [hl]; exact hb4) rfl (fun i y y' g1 g2 => hrel.2 i y y' (by rw [← Array.getElem?_toList]; exact g1) (by rw [← Array.getElem?_toList]; exact g2)) (fun y hy => List.all_eq_true.1 hb5 y hy)
     refine wp_of_value (runs (w' := w') (vc := undef) ?_) (k _ w' μ hst (VRel.undef μ))
     have hn : n ≠ 0 := h0
     cases n with
     | zero => exact absurd rfl hn
     | succ m => simp [Builtin.clear_, run_underlying hu, es, zero_run hz, hrun, undef]
    ·cases h
   ·cases h
 ·cases h
noncomputable def selfF (G : Nat) (P : Program) (σ : Mem) (src dst : TypeId) (x : Value) : Option MCmd :=
 if src = dst then (match uT P src, x with
 | some (.slice e), .slice (some ⟨b, _, _⟩) _ _ => (match uT P e, σ.get b with
  | some (.int .u8), some (.row r) => if G ≤ b then some (.put b (.row ⟨r.cs, r.t, true⟩)) else none
  | _, _ => none)
 | _, _ => none) else none
theorem eop_self {src dst : TypeId} {x : Operand} {σ : Mem} {cmd : MCmd} (ho : o.op = .convert src dst x) (h : selfF G P σ src dst (ρ x) = some cmd) : EOp G P o ρ σ (ρ x) (cmd.app σ) := by
 unfold selfF at h
 try simp only [uT_eq] at h
 split at h
 ·rename_i hsd
  subst hsd
  split at h
  ·rename_i e b p sp n c hu hx
   split at h
   ·rename_i r he hr
    split at h
    ·rename_i hb
     cases h
     refine ⟨Nat.le_refl _, fun μ w a hs hG _ hor K Q k rd => ?_⟩
     rw [ho] at hor
     have hv := hor x (by simp [Op.operands])
     have hv0 := hv
     rw [hx] at hv
     obtain ⟨bi, q, c', hbi, es, _, hq⟩ := hv.slice_inv
     have hin := hs.blk b _ bi hr hbi
     obtain ⟨cc, fz, t', hh, hf', hc⟩ := hin.lie
     obtain ⟨rfl, hf, hz, hgr⟩ := hf' (hs.rw_ b _ bi hb hr hbi)
     have hlt := hin
     have hat : (w.freeze ⟨bi.blk, cc.size, none⟩ 1).heap[bi.blk]? = some (.cells cc r.t (if fz.1 == fz.2 then (cc.size, cc.size + 1) else (min fz.1 cc.size, max fz.2 (cc.size + 1)))) := by
      simp [World.freeze, Array.getElem?_modify, hh]
     refine wp_of_value (w' := w.freeze ⟨bi.blk, cc.size, none⟩ 1) (v := a.eval x) ?_ (k _ _ μ (Stp.turn hs hG hb hr hbi ?_ (by simp [World.freeze]) rfl rfl rfl fun B hB => by simp [World.freeze, Array.getElem?_modify, Ne.symm hB]) hv0)
     ·unfold execOp
      have hsh : w.shape? bi.blk = some (r.t, cc.size) := by simp [World.shape?, hh]
      simp only [ho, Sem.run_bind, es]
      simp [convert, run_underlying hu, run_underlying he, markStringish, hsh, Result.andThen]
     ·refine ⟨hin.len, cc, _, r.t, hat, fun _ => ⟨rfl, ?_, hz, fun h => by cases h⟩, hc⟩
      rcases hf with rfl | h
      ·exact .inr (by simp)
      ·by_cases h2 : fz.1 = fz.2
       ·exact .inr (by simp [h2])
       ·refine .inr ?_
        rw [if_neg (by simpa using h2)]
        show cc.size ≤ min fz.1 cc.size
        omega
    ·cases h
   ·cases h
  ·cases h
 ·cases h
/-! ### Maps -/
def findE (d : TypeDesc) (k : Value) : List (Value × Value) → Nat → Option (Option (Nat × Value))
 | [], _ => some none
 | (k', x) :: l, i => match Instr.sameNow d k k' with
  | some true => some (some (i, x))
  | some false => findE d k l (i + 1)
  | none => none
def plainD : TypeDesc → Bool | .int _ | .string | .bool => true | _ => false
theorem sameNow_flat {d : TypeDesc} {k k' : Value} {b : Bool} (h : Instr.sameNow d k k' = some b) : flatV k' = true := by
 unfold Instr.sameNow at h
 split at h <;> first | rfl | cases h
theorem findE_now {μ : Mu} {d : TypeDesc} {k : Value} : ∀ (es : List (Value × Value)) (cc : List MapEntry) (i : Nat) (r : Option (Nat × Value)), cc.length = es.length → (∀ (j : Nat) k' x, es[j]? = some (k', x) → ∃ e : MapEntry, cc[j]? = some e ∧ VRel μ k' e.key ∧ VRel μ x e.val) → findE d k es i = some r →
    ∃ r', Instr.findNow d k cc i = some r' ∧ (r = none → r' = none) ∧ ∀ j x, r = some (j, x) → ∃ x', r' = some (j, x') ∧ VRel μ x x'
  | [], [], i, r, _, _, h => by cases h; exact ⟨none, rfl, fun _ => rfl, by simp⟩
  | (k', x) :: es, e :: cc, i, r, hl, hr, h => by
    obtain ⟨e', he', h1, h2⟩ := hr 0 k' x rfl
    cases he'
    simp only [findE] at h
    split at h
    · rename_i hs
      cases h
      have := flatV_eq (sameNow_flat hs) h1
      refine ⟨some (i, e.val), by simp only [Instr.findNow, this, hs], by simp, fun j y hj => ?_⟩
      cases hj
      exact ⟨e.val, rfl, h2⟩
    · rename_i hs
      have := flatV_eq (sameNow_flat hs) h1
      obtain ⟨r', g1, g2, g3⟩ := findE_now es cc (i + 1) r (by simpa using hl) (fun j a b hj => hr (j + 1) a b hj) h
      exact ⟨r', by simp only [Instr.findNow, this, hs]; exact g1, g2, g3⟩
    · cases h
  | [], _ :: _, _, _, hl, _, _ => by simp at hl
  | _ :: _, [], _, _, hl, _, _ => by simp at hl
theorem checkKey_run {t : TypeId} {d : TypeDesc} (h : P.underlying t = some d) (hp : plainD d = true) (e : Bool) (k : Value) (w : World) (n : Nat) : (Instr.checkKey e (n + 1) t k).run P w = .ok () w := by
 simp only [Instr.checkKey, Sem.run_bind, run_underlying h, Result.andThen_ok]
 cases d <;> first | rfl | cases hp
def structD : TypeDesc → Bool | .struct _ => true | _ => false
def keyEq (P : Program) (kt : TypeId) (d : TypeDesc) (k k' : Value) : Option Bool :=
 cond (plainD d) (Instr.sameNow d k k') (cond (structD d) (cond (closedV 2 k') (pureOf P (Op.equal kt k k')) none) none)
def findX (P : Program) (kt : TypeId) (d : TypeDesc) (k : Value) : List (Value × Value) → Nat → Option (Option (Nat × Value))
 | [], _ => some none
 | (k', x) :: l, i => match keyEq P kt d k k' with
  | some true => some (some (i, x))
  | some false => findX P kt d k l (i + 1)
  | none => none
theorem findX_plain {kt : TypeId} {d : TypeDesc} (hd : plainD d = true) {k : Value} : ∀ (es : List (Value × Value)) (i : Nat), findX P kt d k es i = findE d k es i
 | [], _ => rfl
 | (k', x) :: l, i => by
  simp only [findX, findE, keyEq, hd, cond_true]
  cases Instr.sameNow d k k' with
  | none => rfl
  | some b => cases b <;> simp [findX_plain hd l]
theorem asking_run {μ : Mu} {kt : TypeId} {d : TypeDesc} (hp : plainD d = false) {k : Value} (w : World) : ∀ (es : List (Value × Value)) (cc : List MapEntry) (i : Nat) (r : Option (Nat × Value)), cc.length = es.length → (∀ (j : Nat) k' x, es[j]? = some (k', x) → ∃ e : MapEntry, cc[j]? = some e ∧ VRel μ k' e.key ∧ VRel μ x e.val) → findX P kt d k es i = some r →
    ∃ r', (Instr.findAsking kt k cc i).run P w = .ok r' w ∧ (r = none → r' = none) ∧ ∀ j x, r = some (j, x) → ∃ x', r' = some (j, x') ∧ VRel μ x x'
  | [], [], i, r, _, _, h => by cases h; exact ⟨none, rfl, fun _ => rfl, by simp⟩
  | (k', x) :: es, e :: cc, i, r, hl, hr, h => by
    obtain ⟨e', he', h1, h2⟩ := hr 0 k' x rfl
    cases he'
    simp only [findX, keyEq, hp, cond_false] at h
    cases hs : structD d with
    | false => rw [hs] at h; cases h
    | true =>
      cases hc : closedV 2 k' with
      | false => rw [hs, hc] at h; cases h
      | true =>
        rw [hs, hc] at h
        simp only [cond_true] at h
        have ek := closedV_eq 2 _ _ hc h1
        split at h
        · rename_i hq
          cases h
          refine ⟨some (i, e.val), ?_, by simp, fun j y hj => ?_⟩
          · simp only [Instr.findAsking, Sem.run_bind, ek, pureOf_run _ _ hq w, Result.andThen_ok, if_true, Sem.run_pure]
          · cases hj; exact ⟨e.val, rfl, h2⟩
        · rename_i hq
          obtain ⟨r', g1, g2, g3⟩ := asking_run hp w es cc (i + 1) r (by simpa using hl) (fun j a b hj => hr (j + 1) a b hj) h
          exact ⟨r', by simp only [Instr.findAsking, Sem.run_bind, ek, pureOf_run _ _ hq w, Result.andThen_ok, Bool.false_eq_true, if_false]; exact g1, g2, g3⟩
        · cases h
  | [], _ :: _, _, _, hl, _, _ => by simp at hl
  | _ :: _, [], _, _, hl, _, _ => by simp at hl
theorem findKey_run {μ : Mu} {kt : TypeId} {d : TypeDesc} (hu : P.underlying kt = some d) {k : Value} (w : World) {es : List (Value × Value)} {cc : List MapEntry} {r : Option (Nat × Value)} (hl : cc.length = es.length) (hr : ∀ (j : Nat) k' x, es[j]? = some (k', x) → ∃ e : MapEntry, cc[j]? = some e ∧ VRel μ k' e.key ∧ VRel μ x e.val) (h : findX P kt d k es 0 = some r) :
    ∃ r', (Instr.findKey kt k cc).run P w = .ok r' w ∧ (r = none → r' = none) ∧ ∀ j x, r = some (j, x) → ∃ x', r' = some (j, x') ∧ VRel μ x x' := by
  unfold Instr.findKey
  simp only [Sem.run_bind, run_underlying hu, Result.andThen_ok]
  cases hp : plainD d with
  | true =>
    rw [findX_plain hp] at h
    obtain ⟨r', g1, g2, g3⟩ := findE_now es cc 0 r hl hr h
    exact ⟨r', by rw [g1]; rfl, g2, g3⟩
  | false =>
    obtain ⟨r', g1, g2, g3⟩ := asking_run (P := P) (kt := kt) hp w es cc 0 r hl hr h
    cases cc with
    | nil =>
      refine ⟨r', ?_, g2, g3⟩
      simp only [Instr.findNow]
      exact g1
    | cons e cc =>
      have hs : structD d = true := by
        cases es with
        | nil => simp at hl
        | cons x es =>
          simp only [findX, keyEq, hp, cond_false] at h
          cases hs : structD d with
          | true => rfl
          | false => rw [hs] at h; cases h
      have hn : Instr.findNow d k (e :: cc) 0 = none := by
        have hs2 : Instr.sameNow d k e.key = none := by cases d <;> first | (cases hs; done) | rfl | (unfold Instr.sameNow; split <;> first | rfl | simp_all)
        unfold Instr.findNow
        rw [hs2]
      exact ⟨r', by rw [hn]; exact g1, g2, g3⟩
def keyOk (P : Program) (kt : TypeId) (d : TypeDesc) (k : Value) : Bool := cond (plainD d) true (match pureOf P (Instr.checkKey true 10000 kt k), pureOf P (Instr.checkKey false 10000 kt k) with | some _, some _ => true | _, _ => false)
theorem keyOk_run {kt : TypeId} {d : TypeDesc} {k : Value} (hd : P.underlying kt = some d) (h : keyOk P kt d k = true) (e : Bool) (w : World) : (Instr.checkKey e 10000 kt k).run P w = .ok () w := by
 unfold keyOk at h
 cases hp : plainD d with
 | true => exact checkKey_run hd hp e _ w 9999
 | false =>
  rw [hp] at h
  simp only [cond_false] at h
  split at h
  ·rename_i h1 h2
   cases e
   ·exact pureOf_run _ _ h2 w
   ·exact pureOf_run _ _ h1 w
  ·cases h
noncomputable def lookupF (P : Program) (σ : Mem) (t : TypeId) (m k : Value) (ok : Bool) : Option Value :=
 match uT P t, m with
 | some (.map kt et), .map (some b) => (match σ.get b, uT P kt, zeroT P et with
  | some (.ents es _), some d, some z => if keyOk P kt d k = true ∧ closedV 2 k = true ∧ closedV 2 z = true then (match findX P kt d k es 0 with
   | some (some (_, x)) => some (if ok then .tuple #[x, .bool true] else x)
   | some none => some (if ok then .tuple #[z, .bool false] else z)
   | none => none) else none
  | _, _, _ => none)
 | _, _ => none
theorem VRel.map_inv {μ : Mu} {b : Nat} : ∀ {v' : Value}, VRel μ (.map (some b)) v' → ∃ bi, μ b = some bi ∧ v' = .map (some bi.blk)
 | _, .flat _ h => by simp [flatV] at h
 | _, .map _ bi h => ⟨bi, h, rfl⟩
theorem EntsIn.rel {μ : Mu} {es : List (Value × Value)} {cc : Array MapEntry} (h : EntsIn μ es cc) : cc.toList.length = es.length ∧ ∀ (j : Nat) k' x, es[j]? = some (k', x) → ∃ e : MapEntry, cc.toList[j]? = some e ∧ VRel μ k' e.key ∧ VRel μ x e.val :=
 ⟨by simpa using h.1, fun j k' x hj => let ⟨e, h1, h2, h3, _⟩ := h.2 j k' x hj; ⟨e, by simpa using h1, h2, h3⟩⟩
theorem eop_lookup {t : TypeId} {m k : Operand} {ok : Bool} {σ : Mem} (ho : o.op = .lookup t m k ok) (h : lookupF P σ t (ρ m) (ρ k) ok = some v) : EOp G P o ρ σ v σ := by
 refine ⟨Nat.le_refl _, fun μ w a hs hG _ hor K Q kk rd => ?_⟩
 rw [ho] at hor
 have hm := hor m (by simp [Op.operands])
 have hk := hor k (by simp [Op.operands])
 unfold lookupF at h
 try simp only [uT_eq] at h
 split at h
 ·rename_i kt et b hu hmv
  rw [hmv] at hm
  obtain ⟨bi, hb, em⟩ := hm.map_inv
  split at h
  ·rename_i es cl d z hes hd hz
   split at h
   ·rename_i hc
    obtain ⟨hp, hf, hcl⟩ := hc
    have ek := closedV_eq 2 _ _ hf hk
    obtain ⟨cc, hin, hents⟩ := hs.blk b _ bi hes hb
    have hck : ∀ (e : Bool) (w : World), (Instr.checkKey e 10000 kt (ρ k)).run P w = .ok () w := fun e w => keyOk_run hd hp e w
    split at h
    ·rename_i i x hfe
     cases h
     obtain ⟨r', g1, _, g3⟩ := findKey_run hd w hents.rel.1 hents.rel.2 hfe
     obtain ⟨x', rfl, hx⟩ := g3 i x rfl
     refine wp_of_value (v := if ok then .tuple #[x', .bool true] else x') (w' := w) ?_ (kk _ w μ (Stp.refl hs hG) ?_)
     ·unfold execOp
      simp only [ho, Instr.lookup, Sem.run_bind, run_underlying hu, Result.andThen_ok, em, ek, getObj_run hin (by simp), Sem.run_pure, hck, g1]
      try simp
     ·cases ok
      ·exact hx
      ·exact .two hx (.flat _ rfl)
    ·rename_i hfe
     cases h
     obtain ⟨r', g1, g2, _⟩ := findKey_run hd w hents.rel.1 hents.rel.2 hfe
     have g2 := g2 rfl
     subst g2
     refine wp_of_value (v := if ok then .tuple #[z, .bool false] else z) (w' := w) ?_ (kk _ w μ (Stp.refl hs hG) ?_)
     ·unfold execOp
      simp only [ho, Instr.lookup, Sem.run_bind, run_underlying hu, Result.andThen_ok, em, ek, getObj_run hin (by simp), Sem.run_pure, hck, g1]
      simp [zero_run hz]
     ·have := closedV_rel μ 2 z hcl
      cases ok
      ·exact this
      ·exact .two this (.flat _ rfl)
    ·cases h
   ·cases h
  ·cases h
 ·cases h
noncomputable def updateF (G : Nat) (P : Program) (σ : Mem) (t : TypeId) (m k x : Value) : Option MCmd :=
 match uT P t, m with
 | some (.map kt _), .map (some b) => (match σ.get b, uT P kt with
  | some (.ents es cl), some d => if G ≤ b ∧ keyOk P kt d k = true ∧ closedV 2 k = true ∧ cl = es.length then (match findX P kt d k es 0 with
   | some (some (i, _)) => (match es[i]? with
    | some (k', _) => if closedV 2 k' = true ∧ Instr.sameBits 10000 k' k = true then some (.put b (.ents (es.set i (k, x)) cl)) else none
    | none => none)
   | some none => some (.put b (.ents (es ++ [(k, x)]) (cl + 1)))
   | none => none) else none
  | _, _ => none)
 | _, _ => none
theorem eop_update {t : TypeId} {m k x : Operand} {σ : Mem} {cmd : MCmd} (ho : o.op = .mapUpdate t m k x ∨ o.op = .insert t m k x) (h : updateF G P σ t (ρ m) (ρ k) (ρ x) = some cmd) : EOp G P o ρ σ undef (cmd.app σ) := by
 have hn : (cmd.app σ).next = σ.next := by
  unfold updateF at h
  try simp only [uT_eq] at h
  split at h
  ·split at h
   ·split at h
    ·split at h
     ·split at h
      ·split at h <;> cases h
       rfl
      ·cases h
     ·cases h; rfl
     ·cases h
    ·cases h
   ·cases h
  ·cases h
 refine ⟨by omega, fun μ w a hs hG _ hor K Q kk rd => ?_⟩
 have hmem : ∀ y, y = m ∨ y = k ∨ y = x → y ∈ o.op.operands := fun y hy => by rcases ho with h | h <;> rw [h] <;> rcases hy with rfl | rfl | rfl <;> simp [Op.operands]
 have hm := hor m (hmem m (.inl rfl))
 have hk := hor k (hmem k (.inr (.inl rfl)))
 have hx := hor x (hmem x (.inr (.inr rfl)))
 have runs : ∀ {w' : World}, (Instr.mapUpdate t (a.eval m) (a.eval k) (a.eval x)).run P w = .ok () w' → (execOp a.eval o).run P w = .ok .skip w' := fun {w'} hr => by
  unfold execOp
  rcases ho with h | h <;> simp [h, hr]
 unfold updateF at h
 try simp only [uT_eq] at h
 split at h
 ·rename_i kt et b hu hmv
  rw [hmv] at hm
  obtain ⟨bi, hb, em⟩ := hm.map_inv
  split at h
  ·rename_i es cl d hes hd
   split at h
   ·rename_i hc
    obtain ⟨hGb, hp, hf, hcl⟩ := hc
    have ek := closedV_eq 2 _ _ hf hk
    obtain ⟨cc, hin, hents⟩ := hs.blk b _ bi hes hb
    have hck : ∀ (e : Bool) (w : World), (Instr.checkKey e 10000 kt (ρ k)).run P w = .ok () w := fun e w => keyOk_run hd hp e w
    split at h
    ·rename_i i y hfe
     obtain ⟨r', g1, _, g3⟩ := findKey_run hd w hents.rel.1 hents.rel.2 hfe
     obtain ⟨y', rfl, hy⟩ := g3 i y rfl
     split at h
     case h_2 => cases h
     rename_i k' y2 hk'
     split at h
     case isFalse => cases h
     rename_i hcs
     obtain ⟨hck', hsb⟩ := hcs
     cases h
     obtain ⟨e, he, h1, h2, h3⟩ := hents.2 i k' y2 hk'
     have ekey := closedV_eq 2 _ _ hck' h1
     have st := Stp.setObj (o := .map (cc.modify i fun e => { e with key := ρ k, val := a.eval x }) cl) (y := .ents (es.set i (ρ k, ρ x)) cl) hs hG hGb hes hb (fun w' hw => ⟨_, hw, by simp [hents.1], fun j k2 x2 hj => by
      have hi : i < es.length := (List.getElem?_eq_some_iff.1 hk').1
      by_cases hij : i = j
      ·subst hij
       rw [List.getElem?_set_self hi] at hj
       cases hj
       refine ⟨{ e with key := ρ k, val := a.eval x }, by simp [Array.getElem?_modify, he], closedV_rel μ 2 _ hf, hx, h3⟩
      ·rw [List.getElem?_set_ne hij] at hj
       obtain ⟨e2, g5, g6, g7, g8⟩ := hents.2 j k2 x2 hj
       exact ⟨e2, by simp [Array.getElem?_modify, hij, g5], g6, g7, g8⟩⟩)
     refine wp_of_skip (runs (w' := _) ?_) (kk undef _ μ st (VRel.undef μ))
     have hkey : ((cc[i]?).map (·.key)).getD (ρ k) = k' := by rw [he]; simp [ekey]
     simp only [Instr.mapUpdate, Sem.run_bind, run_underlying hu, Result.andThen_ok, em, ek, getObj_run hin (by simp), hck, g1, Sem.run_pure, hkey, Instr.keyThatStays, hsb, if_true, setObj_run hin (by simp)]
    ·rename_i hfe
     cases h
     obtain ⟨r', g1, g2, _⟩ := findKey_run hd w hents.rel.1 hents.rel.2 hfe
     have g2 := g2 rfl
     subst g2
     have st := Stp.setObj (o := .map (cc.push { key := ρ k, val := a.eval x, born := cl }) (cl + 1)) (y := .ents (es ++ [(ρ k, ρ x)]) (cl + 1)) hs hG hGb hes hb (fun w' hw => ⟨_, hw, by simp [hents.1], fun j k2 x2 hj => by
      rcases Nat.lt_or_ge j es.length with hjl | hjl
      ·rw [List.getElem?_append_left hjl] at hj
       obtain ⟨e2, g5, g6, g7, g8⟩ := hents.2 j k2 x2 hj
       refine ⟨e2, ?_, g6, g7, g8⟩
       rw [Array.getElem?_push, if_neg (by have := hents.1; omega)]
       exact g5
      ·rw [List.getElem?_append_right hjl] at hj
       have hj0 : j = es.length := by
        have := (List.getElem?_eq_some_iff.1 hj).1
        simp at this
        omega
       subst hj0
       simp at hj
       obtain ⟨rfl, rfl⟩ := hj
       refine ⟨{ key := ρ k, val := a.eval x, born := cl }, ?_, closedV_rel μ 2 _ hf, hx, hcl⟩
       rw [Array.getElem?_push, if_pos hents.1.symm]⟩)
     refine wp_of_skip (runs (w' := _) ?_) (kk undef _ μ st (VRel.undef μ))
     simp only [Instr.mapUpdate, Sem.run_bind, run_underlying hu, Result.andThen_ok, em, ek, getObj_run hin (by simp), hck, g1, setObj_run hin (by simp)]
    ·cases h
   ·cases h
  ·cases h
 ·cases h
end Go.Proofs.YtjcmdifpkafdkaaDoor
namespace Go.Proofs.YtjcmdifpkafdkaaDoor
variable {P : Program} {G : Nat}

noncomputable def nthL {α : Type} (l : List α) : Nat → Option α :=
 List.rec (motive := fun _ => Nat → Option α) (fun _ => none) (fun a _ ih k => Nat.rec (motive := fun _ => Option α) (some a) (fun k _ => ih k) k) l
theorem nthL_eq {α : Type} : ∀ (l : List α) (k : Nat), nthL l k = l[k]?
 | [], k => by simp [nthL]
 | a :: l, 0 => rfl
 | a :: l, k + 1 => by show nthL l k = _; rw [nthL_eq l k]; simp
noncomputable def lenR {α : Type} (l : List α) : Nat := List.rec (motive := fun _ => Nat) 0 (fun _ _ n => Nat.add n 1) l
theorem lenR_eq {α : Type} : ∀ (l : List α), lenR l = l.length
 | [] => rfl
 | a :: l => by show lenR l + 1 = _; rw [lenR_eq l]; rfl
noncomputable def setR {α : Type} (l : List α) (v : α) : Nat → List α :=
 List.rec (motive := fun _ => Nat → List α) (fun _ => []) (fun c t ih k => Nat.rec (motive := fun _ => List α) (v :: t) (fun k _ => c :: ih k) k) l
theorem setR_eq {α : Type} (v : α) : ∀ (l : List α) (k : Nat), setR l v k = l.set k v
 | [], k => by simp [setR]
 | a :: l, 0 => rfl
 | a :: l, k + 1 => by show a :: setR l v k = _; rw [setR_eq v l k]; rfl
noncomputable def overR {α : Type} (vs : List α) : Nat → List α → List α :=
 List.rec (motive := fun _ => Nat → List α → List α) (fun _ cs => cs) (fun v _ ih k cs => ih (Nat.add k 1) (setR cs v k)) vs
theorem overR_eq {off : Nat} : ∀ (l : List Value) (k : Nat) (cs : Array Value), ((l.zipIdx k).foldl (fun (cs : Array Value) (x : Value × Nat) => cs.setIfInBounds (off + x.2) x.1) cs).toList = overR l (off + k) cs.toList
 | [], k, cs => rfl
 | v :: l, k, cs => by
  rw [List.zipIdx_cons, List.foldl_cons, overR_eq l (k + 1)]
  show _ = overR l (off + k + 1) (setR cs.toList v (off + k))
  rw [setR_eq, Array.toList_setIfInBounds, Nat.add_assoc]
noncomputable def allR {α : Type} (p : α → Bool) (l : List α) : Bool := List.rec (motive := fun _ => Bool) true (fun a _ ih => cond (p a) ih false) l
theorem allR_eq {α : Type} (p : α → Bool) : ∀ (l : List α), allR p l = l.all p
 | [] => rfl
 | a :: l => by
  show cond (p a) (allR p l) false = _
  rw [allR_eq p l, List.all_cons]
  cases p a <;> rfl
noncomputable def fillL (place : Nat → Option (Nat × Nat)) (ps : List (Nat × Value)) : List Value → Option (List Value) :=
 List.rec (motive := fun _ => List Value → Option (List Value)) (fun cs => some cs) (fun x _ ih cs => match place x.1 with
  | none => none
  | some (off, size) => cond (cond (Nat.beq (lenR x.2.cells.toList) size) (Nat.ble (Nat.add off (lenR x.2.cells.toList)) (lenR cs)) false) (ih (overR x.2.cells.toList off cs)) none) ps
theorem fillL_eq (place : Nat → Option (Nat × Nat)) : ∀ (ps : List (Nat × Value)) (cs : Array Value), fillL place ps cs.toList = (Instr.fill place cs ps).map (·.toList)
  | [], cs => rfl
  | (i, v) :: ps, cs => by
    show (match place i with
      | none => none
      | some (off, size) => cond (cond (Nat.beq (lenR v.cells.toList) size) (Nat.ble (off + lenR v.cells.toList) (lenR cs.toList)) false) (fillL place ps (overR v.cells.toList off cs.toList)) none) = _
    unfold Instr.fill
    cases place i with
    | none => rfl
    | some x =>
      obtain ⟨off, size⟩ := x
      simp only [lenR_eq, Array.length_toList]
      have e : overR v.cells.toList off cs.toList = (v.cells.zipIdx.foldl (fun (cs : Array Value) (x : Value × Nat) => cs.setIfInBounds (off + x.2) x.1) cs).toList := by
        rw [← Array.foldl_toList, Array.toList_zipIdx, overR_eq]; rfl
      rw [e, fillL_eq place ps]
      by_cases h1 : v.cells.size = size
      · by_cases h2 : off + v.cells.size ≤ cs.size
        · have a1 : Nat.beq v.cells.size size = true := by rw [Nat.beq_eq]; exact h1
          have a2 : Nat.ble (off + v.cells.size) cs.size = true := by rw [Nat.ble_eq]; exact h2
          have a3 : ¬ (off + v.cells.size > cs.size) := by omega
          simp only [a1, a2, cond_true]
          rw [if_neg (by simp [h1]; omega)]
        · have a1 : Nat.beq v.cells.size size = true := by rw [Nat.beq_eq]; exact h1
          have a2 : Nat.ble (off + v.cells.size) cs.size = false := by cases hb : Nat.ble (off + v.cells.size) cs.size with | false => rfl | true => rw [Nat.ble_eq] at hb; exact absurd hb h2
          simp only [a1, a2, cond_true, cond_false]
          rw [if_pos (by simp; right; omega)]
          rfl
      · have a1 : Nat.beq v.cells.size size = false := by cases hb : Nat.beq v.cells.size size with | false => rfl | true => rw [Nat.beq_eq] at hb; exact absurd hb h1
        simp only [a1, cond_false]
        rw [if_pos (by simp [h1])]
        rfl
noncomputable def buildL (P : Program) (t : TypeId) (ps : List (Nat × Value)) : Option Value :=
  match zeroT P t, uT P t with
  | some z, some (.struct fs) => cond (closedV 2 z) (match placesF P fs with
      | some pl => (match fillL (nthL pl.toList) ps z.cells.toList with | some cs => some (.agg cs.toArray) | none => none)
      | none => none) none
  | some z, some (.array _ e) => cond (closedV 2 z) (match sizeT P e with
      | some s => (match fillL (fun i => some (i * s, s)) ps z.cells.toList with | some cs => some (.agg cs.toArray) | none => none)
      | none => none) none
  | _, _ => none
theorem buildL_eq {t : TypeId} {ps : List (Nat × Value)} {v : Value} (h : buildL P t ps = some v) : buildF P t ps = some v := by
 unfold buildL at h
 try simp only [uT_eq] at h
 unfold buildF
 try simp only [uT_eq]
 split at h
 ·rename_i z fs hz hu
  rw [hz, hu]
  cases hc : closedV 2 z with
  | false => rw [hc] at h; cases h
  | true =>
   rw [hc] at h
   simp only [cond_true] at h
   simp only [hc, if_true]
   split at h
   ·rename_i pl hpl
    have e : nthL pl.toList = (pl[·]?) := funext fun k => by rw [nthL_eq]; simp
    rw [e, fillL_eq] at h
    rw [hpl]
    cases hf : Instr.fill (pl[·]?) z.cells ps with
    | none => rw [hf] at h; cases h
    | some cs => rw [hf] at h; cases h; simp [hf]
   ·cases h
 ·rename_i z n e hz hu
  rw [hz, hu]
  cases hc : closedV 2 z with
  | false => rw [hc] at h; cases h
  | true =>
   rw [hc] at h
   simp only [cond_true] at h
   simp only [hc, if_true]
   split at h
   ·rename_i s hs
    rw [fillL_eq] at h
    rw [hs]
    cases hf : Instr.fill (fun i => some (i * s, s)) z.cells ps with
    | none => rw [hf] at h; cases h
    | some cs => rw [hf] at h; cases h; simp [hf]
   ·cases h
 ·cases h
theorem setR_over {cs : List Value} {c : Value} {p : Nat} (h : p < cs.length) : setR cs c p = overL cs p [c] := by
 rw [setR_eq, List.set_eq_take_append_cons_drop, if_pos h]
 simp [overL]
end Go.Proofs.YtjcmdifpkafdkaaDoor
namespace Go.Proofs.YtjcmdifpkafdkaaDoor
variable {P : Program} {G : Nat} {o : Oper} {ρ : Operand → Value} {v : Value}

noncomputable def hasF (f : Nat) (l : List Nat) : Bool := List.rec (motive := fun _ => Bool) false (fun a _ ih => cond (Nat.beq f a) true ih) l
def SameFn (P : Program) (f : FuncId) : Prop := ∃ fn, P.funcs[f]? = some fn ∧ (fn.name == "runtime.NumGoroutine") = false ∧ fn.body.isNone = true ∧ Extern.findNext fn = none ∧ Extern.find fn = some Extern.AbiNoEscape.same
theorem vop_same {c : Call} {x y : Operand} {f : FuncId} (ho : o.op = .call c) (hc : c.callee = .value x) (hx : ρ x = .func (.func f) #[] #[]) (ha : c.args = #[y]) (h : SameFn P f) : VOp P o ρ (ρ y) := fun μ ρc hor => by
 rw [ho] at hor
 have h1 := hor x (by simp [Op.operands, Call.operands, hc])
 have h2 := hor y (by simp [Op.operands, Call.operands, hc, ha])
 rw [hx] at h1
 obtain ⟨fa', ca', e, hfa, hca⟩ := h1.func_inv
 have e1 : fa' = #[] := Array.eq_empty_of_size_eq_zero hfa.1.symm
 have e2 : ca' = #[] := Array.eq_empty_of_size_eq_zero hca.1.symm
 subst e1 e2
 obtain ⟨fn, g1, g2, g3, g4, g5⟩ := h
 refine ⟨ρc y, h2, fun w => ?_⟩
 unfold execOp
 simp only [ho, Sem.run_bind, resolve_value hc e, Result.andThen_ok, invoke, ha]
 rw [run_callFunc_extern g1 g2 g3 g4 g5]
 have e3 : (#[] ++ Array.map ρc #[y] ++ #[]) = #[ρc y] := by simp
 rw [e3, Lib.run_noEscape]
 rfl
theorem VRel.ptr_shape {σ : Mem} {μ : Mu} {w : World} (hs : Sim G μ σ w) {b p : Nat} {bi : BI} {r : Row} (hm : μ b = some bi) (hr : σ.get b = some (.row r)) (hp : p < r.cs.length) : ∃ e cells, w.shape? bi.blk = some (e, cells) ∧ bi.sh + p < cells ∧ (G ≤ b → e = r.t ∧ (r.g = false → bi.sh = 0 ∧ cells = r.cs.length)) := by
 have hin := hs.blk b _ bi hr hm
 obtain ⟨cc, fz, t', hh, hf, hv⟩ := hin.lie
 have hlen := hin.len
 obtain ⟨v', h1, _⟩ := hv p r.cs[p] (by simp [hp])
 refine ⟨t', cc.size, by simp [World.shape?, hh], (Array.getElem?_eq_some_iff.1 h1).1, fun hb => ?_⟩
 obtain ⟨h2, _, h3, h4⟩ := hf (hs.rw_ b _ bi hb hr hm)
 refine ⟨h2, fun hg => ?_⟩
 obtain ⟨h5, h6, _⟩ := h4 hg
 refine ⟨h5, ?_⟩
 rw [h5, h6] at h3
 omega
noncomputable def ptrF (G : Nat) (P : Program) (σ : Mem) (src dst : TypeId) (x : Value) : Bool :=
 match x with
 | .pointer (some ⟨b, p, none⟩) => (match uT P src, uT P dst, σ.get b with
  | some (.pointer t), some .unsafePointer, some (.row r) => (match iT P t with | some j => Nat.blt 0 j.size && Nat.blt p r.cs.length | none => false)
  | some .unsafePointer, some (.pointer u), some (.row r) => (match iT P u with | some _ => Nat.ble G b && !r.g && Nat.blt p r.cs.length && liesAt P P.depth r.t (r.cs.length / P.cellsOf r.t) p u 1 | none => false)
  | _, _, _ => false)
 | _ => false
theorem VRel.ptr_of {μ : Mu} {b p : Nat} {v' : Value} (h : VRel μ (.pointer (some ⟨b, p, none⟩)) v') : ∃ bi, μ b = some bi ∧ v' = .pointer (some ⟨bi.blk, bi.sh + p, none⟩) := by
 obtain ⟨bi, h1, h2⟩ := h.ptr_inv
 exact ⟨bi, h1, h2⟩
theorem eop_ptr {src dst : TypeId} {x : Operand} {σ : Mem} (ho : o.op = .convert src dst x) (h : ptrF G P σ src dst (ρ x) = true) : EOp G P o ρ σ (ρ x) σ := by
 refine ⟨Nat.le_refl _, fun μ w a hs hG _ hor K Q k rd => ?_⟩
 rw [ho] at hor
 have hv := hor x (by simp [Op.operands])
 unfold ptrF at h
 try simp only [uT_eq, iT_eq] at h
 split at h
 ·rename_i b p hx
  have hv0 := hv
  rw [hx] at hv
  obtain ⟨bi, hm, e⟩ := hv.ptr_of
  refine wp_of_value (w' := w) (v := a.eval x) ?_ (k _ w μ (Stp.refl hs hG) hv0)
  unfold execOp
  simp only [ho, Sem.run_bind, e]
  split at h
  ·rename_i t r hu hd hr
   split at h
   ·rename_i j hj
    simp only [Bool.and_eq_true, Nat.blt_eq] at h
    obtain ⟨e', cells, g1, g2, _⟩ := VRel.ptr_shape hs hm hr h.2
    rw [Lib.run_to_unsafe _ ⟨bi.blk, bi.sh + p, none⟩ hu hd hj (by omega) g1 g2]
    rfl
   ·cases h
  ·rename_i u r hu hd hr
   split at h
   ·rename_i j hj
    simp only [Bool.and_eq_true, Nat.blt_eq, Nat.ble_eq, Bool.not_eq_true'] at h
    obtain ⟨⟨⟨h1, h2⟩, h3⟩, h4⟩ := h
    obtain ⟨e', cells, g1, g2, g3⟩ := VRel.ptr_shape hs hm hr h3
    obtain ⟨rfl, g4⟩ := g3 h1
    obtain ⟨g5, rfl⟩ := g4 h2
    rw [Lib.run_from_unsafe _ ⟨bi.blk, bi.sh + p, none⟩ hu hd hj g1 (by simpa [g5] using h4)]
    rfl
   ·cases h
  ·cases h
 ·cases h
theorem equalIn_ptr {t e : TypeId} {s : Nat} (hu : P.underlying t = some (.pointer e)) (hs : sizeT P e = some (s + 1)) (B p q d : Nat) (w : World) : (Op.equalIn (d + 1) t (.pointer (some ⟨B, p, none⟩)) (.pointer (some ⟨B, q, none⟩))).run P w = .ok (Nat.beq p q) w := by
 have hb' : (({ block := B, off := p, spot := none } : Addr) == { block := B, off := q, spot := none }) = Nat.beq p q := by
  rw [Bool.eq_iff_iff]; simp
 simp only [Op.equalIn, Sem.run_bind, run_underlying hu, Result.andThen_ok, sizeOf_run hs]
 simp [sameAddr, hb']
noncomputable def ptrEq (P : Program) (op : BinOp) (t : TypeId) (x y : Value) : Option Value :=
 match x, y, uT P t with
 | .pointer (some ⟨b, p, none⟩), .pointer (some ⟨c, q, none⟩), some (.pointer e) => cond (Nat.beq b c) (match sizeT P e with
  | some (_ + 1) => (match op with | .eql => some (.bool (Nat.beq p q)) | .neq => some (.bool (!Nat.beq p q)) | _ => none)
  | _ => none) none
 | _, _, _ => none
theorem vop_ptrEq {op : BinOp} {t t' : TypeId} {x y : Operand} (ho : o.op = .binOp op t x y t') (h : ptrEq P op t (ρ x) (ρ y) = some v) : VOp P o ρ v := fun μ ρc hor => by
 rw [ho] at hor
 have h1 := hor x (by simp [Op.operands])
 have h2 := hor y (by simp [Op.operands])
 unfold ptrEq at h
 try simp only [uT_eq] at h
 split at h
 ·rename_i b p c q e hx hy hu
  rw [hx] at h1
  rw [hy] at h2
  obtain ⟨bi, hm, e1⟩ := h1.ptr_of
  obtain ⟨bi', hm', e2⟩ := h2.ptr_of
  cases hbc : Nat.beq b c with
  | false => rw [hbc] at h; cases h
  | true =>
   rw [hbc] at h
   simp only [cond_true] at h
   obtain rfl := Nat.eq_of_beq_eq_true hbc
   rw [hm] at hm'
   cases hm'
   split at h
   ·rename_i s hs
    have hbb : Nat.beq (bi.sh + p) (bi.sh + q) = Nat.beq p q := by
     rw [Bool.eq_iff_iff]; simp
    have hsame : ∀ w, (Op.equal t (.pointer (some ⟨bi.blk, bi.sh + p, none⟩)) (.pointer (some ⟨bi.blk, bi.sh + q, none⟩))).run P w = .ok (Nat.beq p q) w := fun w => by
     rw [← hbb]
     exact equalIn_ptr hu hs bi.blk (bi.sh + p) (bi.sh + q) 9999 w
    split at h
    ·cases h
     refine ⟨.bool (Nat.beq p q), .flat _ rfl, fun w => ?_⟩
     unfold execOp
     simp only [ho, e1, e2]
     simp [eqGuard, binOp, hsame]
    ·cases h
     refine ⟨.bool (!Nat.beq p q), .flat _ rfl, fun w => ?_⟩
     unfold execOp
     simp only [ho, e1, e2]
     simp [eqGuard, binOp, hsame]
    ·cases h
   ·cases h
 ·cases h
def dataF : Value → Option Value
 | .slice none _ _ => some (.pointer none)
 | .slice (some ⟨b, p, _⟩) n c => cond (Nat.blt 0 n && Nat.blt 0 c) (some (.pointer (some ⟨b, p, none⟩))) none
 | _ => none
theorem vop_data {c : Call} {x : Operand} (ho : o.op = .call c) (hc : c.callee = .builtin .unsafeSliceData) (ha : c.args = #[x]) (h : dataF (ρ x) = some v) : VOp P o ρ v := fun μ ρc hor => by
 rw [ho] at hor
 have hv := hor x (by simp [Op.operands, Call.operands, hc, ha])
 have runs : ∀ {w w' : World} {vc : Value}, (Builtin.unsafeSliceData_ c.argTypes o.type #[ρc x]).run P w = .ok vc w' → (execOp ρc o).run P w = .ok (.value vc) w' := fun {w w' vc} hr => by
  unfold execOp
  simp only [ho, Sem.run_bind, resolve, hc, ha, Result.andThen_ok, Sem.run_pure]
  simp [invoke, builtin, hr]
 unfold dataF at h
 split at h
 ·rename_i n cp hx
  cases h
  rw [hx] at hv
  have hv := flatV_eq rfl hv
  exact ⟨_, .flat _ rfl, fun w => runs (by rw [hv]; rfl)⟩
 ·rename_i b p sp n cp hx
  cases hk : (Nat.blt 0 n && Nat.blt 0 cp) with
  | false => rw [hk] at h; cases h
  | true =>
   rw [hk] at h
   cases h
   simp only [Bool.and_eq_true, Nat.blt_eq] at hk
   rw [hx] at hv
   obtain ⟨bi, q, c', hb, es, hcc, hq⟩ := hv.slice_inv
   have hq := hq (by omega)
   subst hq
   exact ⟨_, .ptr b p bi hb, fun w => runs (by rw [es]; exact Lib.run_unsafeSliceData_row w _ _ _ _ _ (by omega))⟩
 ·cases h
theorem Stp.turnKill {σ : Mem} {μ : Mu} {w w' : World} (hs : Sim G μ σ w) (hG : G ≤ σ.next) {b : Nat} {x : Blk2} {bi : BI} (hb : G ≤ b) (hx : σ.get b = some x) (hm : μ b = some bi)
    (hsz : w'.heap.size = w.heap.size) (hos : w'.os = w.os) (ht : w'.tape = w.tape) (ho : w'.output = w.output) (hk : ∀ B, B ≠ bi.blk → w'.heap[B]? = w.heap[B]?) : Stp G σ μ w (σ.kill b) μ w' := by
  have key : ∀ c z, (σ.kill b).get c = some z → c ≠ b ∧ σ.get c = some z := fun c z hz => by
    rw [Mem.kill_get] at hz
    split at hz
    · cases hz
    · rename_i hc; exact ⟨hc, hz⟩
  have own2 := OwnOk.same (G := G) (σ := σ) (μ := μ) (w := w) (w' := w') (σ' := σ.kill b) rfl (Ext.refl μ) rfl (by omega) (fun B _ h => hk B (Ne.symm (h b x bi hb hx hm))) fun c z ci hz hc => .inr ⟨c, z, ci, (key c z hz).2, hc, rfl⟩
  refine ⟨Nat.le_refl _, fun c h1 h2 => absurd h1 (by have : c < σ.next := h2; omega), fun _ _ => rfl, ⟨hs.glob, fun c z ci hz hc => ?_, fun c c' z z' ci ci' hz hz' hc hc' => hs.inj c c' z z' ci ci' (key _ _ hz).2 (key _ _ hz').2 hc hc', fun c z ci hGc hz hc => hs.rw_ c z ci hGc (key _ _ hz).2 hc, own2 hs.abs⟩, by omega, hos, ht, ho,
    fun c z ci hc hz _ => absurd (Mem.lt (key c z hz).2) (by omega), fun c z _ hz => ⟨z, (key c z hz).2⟩, hG, own_id, fun B _ _ h => hk B (Ne.symm (h b x bi hb hx hm))⟩
  obtain ⟨h1, h2⟩ := key c z hz
  exact (hs.blk c z ci h2 hc).keep (hk _ fun e => h1 (hs.inj c b z x ci bi h2 hx hc hm e (.inr hb))) (Ext.refl _)
def bytesF : List Value → Option (List UInt8)
 | [] => some []
 | .int .u8 n :: l => if 0 ≤ n ∧ n < 256 then (match bytesF l with | some ns => some (UInt8.ofNat n.toNat :: ns) | none => none) else none
 | _ :: _ => none
theorem bytesF_eq : ∀ {l : List Value} {ns : List UInt8}, bytesF l = some ns → l = ns.map fun b => Value.int .u8 b.toNat
 | [], ns, h => by cases h; rfl
 | x :: l, ns, h => by
  unfold bytesF at h
  split at h
  ·rename_i h'; cases h'
  ·rename_i n l' he
   cases he
   split at h
   ·rename_i hn
    split at h
    ·rename_i ns' h'
     cases h
     rw [List.map_cons, ← bytesF_eq h']
     congr 2
     simp [UInt8.toNat_ofNat']
     omega
    ·cases h
   ·cases h
  ·cases h
noncomputable def ustrF (G : Nat) (P : Program) (σ : Mem) (pt : TypeId) (x y : Value) : Option (ByteArray × Option Nat) :=
 match x, y with
 | .pointer none, .int .i64 (.ofNat 0) => some (.empty, none)
 | .pointer (some ⟨b, p, none⟩), .int .i64 (.ofNat (n + 1)) => (match uT P pt, σ.get b with
  | some (.pointer e), some (.row r) => cond (Nat.ble G b && Nat.beq (P.cellsOf e) 1 && Nat.beq r.t e && Nat.ble (p + (n + 1)) r.cs.length && Nat.ble (n + 1) 9223372036854775807) (match bytesF ((r.cs.drop p).take (n + 1)) with | some l => some (⟨l.toArray⟩, some b) | none => none) none
  | _, _ => none)
 | _, _ => none
theorem liesAt_from {e : TypeId} (hc : P.cellsOf e = 1) (count off n : Nat) (hn : off + n ≤ count) : liesAt P P.depth e count off e n = true := by
 have hd : P.depth = (2 * (P.types.size + Made.depth) + 1) + 1 := rfl
 rw [hd]
 simp only [liesAt, Bool.or_eq_true]
 left
 rw [hd]
 simp [rowAt, hc, hn, sameLayout]
 exact .inl (Nat.mod_one off)
theorem run_ustr (w : World) (pt it ty e : TypeId) (hp : P.underlying pt = some (.pointer e)) (hc : P.cellsOf e = 1) (g off cells : Nat) (hsh : w.shape? g = some (e, cells)) (l : List UInt8) (h0 : l ≠ []) (hn : off + l.length ≤ cells) (h63 : l.length ≤ 9223372036854775807)
    (hcell : ∀ (j : Nat) x, l[j]? = some x → w.cell? ((⟨g, off, none⟩ : Addr).add j) = some (.int .u8 x.toNat)) :
    (Builtin.unsafeString_ #[pt, it] ty #[.pointer (some ⟨g, off, none⟩), .int .i64 l.length]).run P w = .ok (.string ⟨l.toArray⟩) (w.freeze ⟨g, off, none⟩ l.length) := by
  have hl : l.length ≠ 0 := by simpa using h0
  have hlb := Lib.run_loadBytes (P := P) w l ⟨g, off, none⟩ .empty hcell
  have hlies := liesAt_from (P := P) hc (cells / P.cellsOf e) off l.length (by rw [hc]; simpa using hn)
  have h63' : ¬ (9223372036854775807 : Int) < (l.length : Int) := by omega
  have hdef : Builtin.unsafeString_ #[pt, it] ty #[.pointer (some ⟨g, off, none⟩), .int .i64 l.length] =
      (do
        let n ← asInt (.int .i64 l.length)
        if n < 0 then runtimePanic (.error "unsafe.String: len out of range")
        if n > IntKind.i64.max then unsupported (.unsafePointer "String: a length above the largest int")
        if n = 0 then pure (.string .empty)
        else if ← variablesAt ⟨g, off, none⟩ (← elemOf pt) n.toNat then do
          let s ← loadBytes ⟨g, off, none⟩ .empty n.toNat
          freeze ⟨g, off, none⟩ n.toNat
          pure (.string s)
        else unsupported (.unsafePointer "String: not so many bytes at ptr")) := rfl
  rw [hdef]
  have hmax : IntKind.i64.max = 9223372036854775807 := rfl
  have hneg : ¬ (l.length : Int) < 0 := by omega
  simp [asInt, asIntOf, hmax, h63', hneg, hl, variablesAt, hsh, elemOf, run_underlying hp, hlies, hlb]
def killO (σ : Mem) : Option Nat → Mem
 | none => σ
 | some b => σ.kill b
theorem eop_ustr {c : Call} {x y : Operand} {pt it : TypeId} {σ : Mem} {s : ByteArray} {d : Option Nat} (ho : o.op = .call c) (hc : c.callee = .builtin .unsafeString) (ha : c.args = #[x, y]) (ht : c.argTypes = #[pt, it]) (h : ustrF G P σ pt (ρ x) (ρ y) = some (s, d)) : EOp G P o ρ σ (.string s) (killO σ d) := by
 have hops : ∀ z, z = x ∨ z = y → z ∈ (Op.call c).operands := fun z hz => by
  simp only [Op.operands, Call.operands, hc, ha]
  rcases hz with rfl | rfl <;> simp
 have runs : ∀ {a : Act} {w w' : World} {vc : Value}, (Builtin.unsafeString_ #[pt, it] o.type #[a.eval x, a.eval y]).run P w = .ok vc w' → (execOp a.eval o).run P w = .ok (.value vc) w' := fun {a w w' vc} hr => by
  unfold execOp
  simp only [ho, Sem.run_bind, resolve, hc, ha, ht, Result.andThen_ok, Sem.run_pure]
  simp [invoke, builtin, hr]
 unfold ustrF at h
 try simp only [uT_eq] at h
 split at h
 ·rename_i hx hy
  cases h
  refine ⟨Nat.le_refl _, fun μ w a hs hG _ hor K Q k rd => ?_⟩
  rw [ho] at hor
  have hvx := hor x (hops x (.inl rfl))
  have hvy := hor y (hops y (.inr rfl))
  rw [hx] at hvx
  rw [hy] at hvy
  have ex := flatV_eq rfl hvx
  have ey := flatV_eq rfl hvy
  refine wp_of_value (runs (w' := w) (vc := .string .empty) ?_) (k _ w μ (Stp.refl hs hG) (.flat _ rfl))
  rw [ex, ey]
  exact Lib.run_unsafeString_none w _ _ _ _
 ·rename_i b p n hx hy
  split at h
  ·rename_i e r hu hr
   cases hk : (Nat.ble G b && Nat.beq (P.cellsOf e) 1 && Nat.beq r.t e && Nat.ble (p + (n + 1)) r.cs.length && Nat.ble (n + 1) 9223372036854775807) with
   | false => rw [hk] at h; cases h
   | true =>
    rw [hk] at h
    simp only [cond_true] at h
    simp only [Bool.and_eq_true, Nat.ble_eq, Nat.beq_eq] at hk
    obtain ⟨⟨⟨⟨k1, k2⟩, k3⟩, k4⟩, k5⟩ := hk
    split at h
    ·rename_i l hl
     cases h
     refine ⟨Nat.le_refl _, fun μ w a hs hG _ hor K Q k rd => ?_⟩
     rw [ho] at hor
     have hvx := hor x (hops x (.inl rfl))
     have hvy := hor y (hops y (.inr rfl))
     rw [hx] at hvx
     rw [hy] at hvy
     obtain ⟨bi, hm, ex⟩ := hvx.ptr_of
     have ey := flatV_eq rfl hvy
     have hcs := bytesF_eq hl
     have hlen : l.length = n + 1 := by
      have := congrArg List.length hcs
      simp at this
      omega
     have hin := hs.blk b _ bi hr hm
     obtain ⟨cc, fz, t', hh, hf, hv⟩ := hin.lie
     obtain ⟨rfl, _, hz, _⟩ := hf (hs.rw_ b _ bi k1 hr hm)
     subst k3
     have hil := hin.len
     have hrun := run_ustr (P := P) w pt it o.type r.t hu k2 bi.blk (bi.sh + p) cc.size (by simp [World.shape?, hh]) l (by intro e; rw [e] at hlen; simp at hlen) (by rw [hz]; omega) (by omega) (fun j z hj => by
      have hjl : j < l.length := by
       rcases Nat.lt_or_ge j l.length with h | h
       ·exact h
       ·rw [List.getElem?_eq_none h] at hj; cases hj
      have e1 : ((r.cs.drop p).take (n + 1))[j]? = some (.int .u8 z.toNat) := by rw [hcs, List.getElem?_map, hj]; rfl
      rw [List.getElem?_take, if_pos (by omega), List.getElem?_drop] at e1
      obtain ⟨v', g1, g2⟩ := hv _ _ e1
      have g3 := flatV_eq rfl g2
      subst g3
      have e2 : ((⟨bi.blk, bi.sh + p, none⟩ : Addr).add j) = ⟨bi.blk, bi.sh + p + j, none⟩ := by
       unfold Addr.add
       by_cases hj0 : j = 0
       ·subst hj0; simp
       ·simp [hj0]
      rw [e2]
      simp only [World.cell?, hh]
      simpa [Nat.add_assoc] using g1)
     refine wp_of_value (runs (w' := w.freeze ⟨bi.blk, bi.sh + p, none⟩ l.length) (vc := .string ⟨l.toArray⟩) ?_) (k _ _ μ (Stp.turnKill hs hG k1 hr hm ?_ ?_ ?_ ?_ fun B hB => ?_) (.flat _ rfl))
     ·rw [ex, ey]
      have e3 : (Int.ofNat (n + 1)) = (l.length : Int) := by rw [hlen]; rfl
      rw [e3]
      exact hrun
     all_goals (unfold World.freeze; split <;> first | rfl | simp [Array.getElem?_modify, Ne.symm hB] | simp)
    ·cases h
  ·cases h
 ·cases h
noncomputable def methF (P : Program) (t : TypeId) (name : String) : Option FuncId :=
 match iT P t with
 | some i => (match i.methods.find? (·.name == name) with
  | some m => cond (Nat.beq m.path.size 0) (match m.func with
   | some (f, pr) => (match uT P t with
    | some (.pointer _) => cond pr (some f) none
    | some _ => cond pr none (some f)
    | none => none)
   | none => none) none
  | none => none)
 | none => none
theorem method_fuel {t : TypeId} {name : String} {f : FuncId} (h : methF P t name = some f) (v : Value) (n : Nat) (w : World) : (method (n + 1) t v name).run P w = .ok (f, v) w := by
 unfold methF at h
 try simp only [uT_eq, iT_eq] at h
 split at h
 ·rename_i i hi
  split at h
  ·rename_i m hm
   cases hp : Nat.beq m.path.size 0 with
   | false => rw [hp] at h; cases h
   | true =>
    rw [hp] at h
    simp only [cond_true] at h
    have hp0 : m.path = #[] := Array.eq_empty_of_size_eq_zero (Nat.eq_of_beq_eq_true hp)
    split at h
    ·rename_i f' pr hf
     have base : (method (n + 1) t v name).run P w = ((receiverAt t (.val v) pr (if m.path.isEmpty then some ((name.splitOn ".").getLastD name) else none)).run P w).andThen fun r w' => .ok (f', r) w' := by
      simp only [method, Sem.run_bind, typeInfo, run_program, Result.andThen_ok, hi, Sem.run_pure, hm, hp0, follow, hf]
     rw [base]
     generalize (if m.path.isEmpty then some ((name.splitOn ".").getLastD name) else none) = wr
     split at h
     ·rename_i e hu
      cases pr with
      | false => cases h
      | true =>
       cases h
       unfold receiverAt
       simp only [Sem.run_bind, run_underlying hu, Result.andThen_ok]
       rfl
     ·rename_i d hnp hu
      cases pr with
      | true => cases h
      | false =>
       cases h
       unfold receiverAt
       simp only [Sem.run_bind, run_underlying hu, Result.andThen_ok]
       cases d <;> first | rfl | exact absurd hu (hnp _)
     ·cases h
    ·cases h
  ·cases h
 ·cases h
theorem method_run {t : TypeId} {name : String} {f : FuncId} (h : methF P t name = some f) (v : Value) (w : World) : (method (P.types.size + Made.depth) t v name).run P w = .ok (f, v) w :=
 method_fuel h v (P.types.size + 99) w
theorem eop_invoke {c : Call} {x : Operand} {name : String} {t : TypeId} {u : Value} {f : FuncId} {σ σ' : Mem} (ho : o.op = .call c) (hc : c.callee = .invoke x name) (hx : ρ x = .iface t u) (hm : methF P t name = some f) (hp : plainFn P f = true)
    (h : SCall G P f (#[u] ++ c.args.map ρ) σ v σ') : EOp G P o ρ σ v σ' := by
  refine ⟨h.1, fun μ w a hs hG hf hor K Q k rd => ?_⟩
  rw [ho] at hor
  have hops : ∀ y, y = x ∨ y ∈ c.args → y ∈ (Op.call c).operands := fun y hy => by
    simp only [Op.operands, Call.operands, hc]
    rcases hy with rfl | hy <;> simp [*]
  have h1 := hor x (hops x (.inl rfl))
  rw [hx] at h1
  obtain ⟨u', e, hu⟩ := h1.iface_inv
  have hargs := ARel.map fun y hy => hor y (hops y (.inr hy))
  refine wp_of_enter (f := f) (args := #[u'] ++ c.args.map a.eval) (w' := w) ?_ ?_
  · unfold execOp
    simp only [ho, Sem.run_bind, resolve, hc, Sem.run_pure, Result.andThen_ok, invoke, e]
    have e0 : (#[Value.iface t u'] ++ c.args.map a.eval)[0]? = some (.iface t u') := by rw [Array.getElem?_append_left (by simp)]; rfl
    have e1 : (#[Value.iface t u'] ++ c.args.map a.eval).extract 1 (#[Value.iface t u'] ++ c.args.map a.eval).size = c.args.map a.eval := by
      apply Array.ext'
      simp [List.take_of_length_le]
    simp only [e0, e1, callMethod, Sem.run_bind, run_program, Result.andThen_ok, method_run hm, callFunc_run hp]
  · refine (h.2 μ w _ hs hG hf ((ARel.one hu).append hargs)).mono ?_
    rintro e w' ⟨vc, μ', rfl, hst, hv⟩
    exact ⟨vc, rfl, k vc w' μ' hst hv⟩
noncomputable def slice3F (P : Program) (t : TypeId) (x : Value) (lo : Option Value) (hi mx : Value) : Option Value :=
  match x, uT P t, boundF lo 0 9223372036854775807, hi, mx with
  | .slice (some ⟨b, p, _⟩) n c, some (.slice e), some l, .int _ (.ofNat h), .int _ (.ofNat m) => (match sizeT P e with
    | some sz => if n ≠ 0 ∧ l ≤ h ∧ h ≤ m ∧ m ≤ c then some (.slice (some (if m = l then ⟨b, p, none⟩ else ⟨b, p + l * sz, none⟩)) (h - l) (m - l)) else none
    | none => none)
  | _, _, _, _, _ => none
theorem vop_slice3 {t : TypeId} {x hi mx : Operand} {lo : Option Operand} (ho : o.op = .slice t x lo (some hi) (some mx)) (h : slice3F P t (ρ x) (lo.map ρ) (ρ hi) (ρ mx) = some v) : VOp P o ρ v := fun μ ρc hor => by
 rw [ho] at hor
 have h1 := hor x (by simp [Op.operands])
 have h2 := hor hi (by simp [Op.operands])
 have h3 := hor mx (by simp [Op.operands])
 have hlo : ∀ y, lo.map ρ = some y → ∃ y', lo.map ρc = some y' ∧ VRel μ y y' := fun y hy => by
  cases lo with
  | none => cases hy
  | some z => cases hy; exact ⟨_, rfl, hor z (by simp [Op.operands])⟩
 have nlo : lo.map ρ = none → lo.map ρc = none := fun e => by cases lo with | none => rfl | some z => cases e
 unfold slice3F at h
 try simp only [uT_eq] at h
 split at h
 ·rename_i b p sp n c e l k1 hn k2 mn hx hu hl hhi hmx
  rw [hx] at h1
  rw [hhi] at h2
  rw [hmx] at h3
  have e2 := flatV_eq rfl h2
  have e3 := flatV_eq rfl h3
  obtain ⟨bi, q, c', hb, es, hcc, hq⟩ := h1.slice_inv
  split at h
  ·rename_i sz hs
   split at h
   ·rename_i hk
    obtain ⟨hn0, g1, g2, g3⟩ := hk
    cases h
    obtain rfl := hq hn0
    have bl := boundF_rel hlo nlo (Nat.le_refl _) hl
    have hbnd : ∀ w, (Instr.sliceBounds true n c' (lo.map ρc) (some (.int k1 (.ofNat hn))) (some (.int k2 (.ofNat mn)))).run P w = .ok (l, hn, mn) w := fun w => by
     have hm1 : ∀ c : BoundsCode, (Instr.sliceBound (.int k2 (.ofNat mn)) c' c).run P w = .ok mn w := fun c => bound_run (P := P) (x := .int k2 (.ofNat mn)) (top := c') rfl (show (0 : Int) ≤ Int.ofNat mn ∧ Int.ofNat mn ≤ (c' : Int) from ⟨Int.natCast_nonneg mn, Int.ofNat_le.2 (by omega)⟩) c w
     have hh1 : ∀ c : BoundsCode, (Instr.sliceBound (.int k1 (.ofNat hn)) mn c).run P w = .ok hn w := fun c => bound_run (P := P) (x := .int k1 (.ofNat hn)) (top := mn) rfl (show (0 : Int) ≤ Int.ofNat hn ∧ Int.ofNat hn ≤ (mn : Int) from ⟨Int.natCast_nonneg hn, Int.ofNat_le.2 g2⟩) c w
     unfold Instr.sliceBounds
     rcases bl with ⟨_, e, rfl⟩ | ⟨k, i, e, b1, b2, b3, b4⟩
     ·rw [e]
      simp only [Sem.run_bind, hm1, Result.andThen_ok, if_true, hh1]
      simp
     ·rw [e]
      have hl1 := bound_run (P := P) (x := .int k i) (top := hn) rfl (show (0 : Int) ≤ i ∧ i ≤ (hn : Int) from ⟨b1, by omega⟩)
      simp only [Sem.run_bind, hm1, Result.andThen_ok, if_true, hh1, hl1]
      simp [b4]
    refine ⟨.slice (some ⟨bi.blk, if mn = l then bi.sh + p else bi.sh + p + l * sz, none⟩) (hn - l) (mn - l), ?_, fun w => ?_⟩
    ·split
     ·exact .sliceE _ _ _ _ bi hb
     ·rw [Nat.add_assoc]; exact .sliceE _ _ _ _ bi hb
    ·unfold execOp
     simp only [ho, Instr.sliceAt, Sem.run_bind, run_underlying hu, Result.andThen_ok, es, Option.map_some, Instr.slice, e2, e3, hbnd, sizeOf_run hs, Sem.run_pure]
     split <;> simp [add_none]
   ·cases h
  ·cases h
 ·cases h
def capF : Value → Option Value
 | .slice none 0 0 => some (.int .i64 0)
 | .slice (some ⟨_, _, none⟩) _ c => some (.int .i64 c)
 | _ => none
theorem vop_cap {c : Call} {x : Operand} {t e : TypeId} (ho : o.op = .call c) (hc : c.callee = .builtin .cap) (ha : c.args = #[x]) (ht : c.argTypes = #[t]) (hu : P.underlying t = some (.slice e)) (h : capF (ρ x) = some v) : VOp P o ρ v := fun μ ρc hor => by
 rw [ho] at hor
 have h1 := hor x (by simp [Op.operands, Call.operands, hc, ha])
 have runs : ∀ {w w' : World} {vc : Value}, (Builtin.cap_ #[t] o.type #[ρc x]).run P w = .ok vc w' → (execOp ρc o).run P w = .ok (.value vc) w' := fun {w w' vc} hr => by
  unfold execOp
  simp only [ho, Sem.run_bind, resolve, hc, ha, ht, Result.andThen_ok, Sem.run_pure]
  simp [invoke, builtin, hr]
 unfold capF at h
 split at h
 ·rename_i hx
  cases h
  rw [hx] at h1
  have h1 := flatV_eq rfl h1
  exact ⟨_, .flat _ rfl, fun w => runs (by simp [Builtin.cap_, run_underlying hu, h1, goInt])⟩
 ·rename_i b p n c hx
  cases h
  rw [hx] at h1
  obtain ⟨bi, hb, e1⟩ := h1.sliceE_inv
  exact ⟨_, .flat _ rfl, fun w => runs (by simp [Builtin.cap_, run_underlying hu, e1, goInt])⟩
 ·cases h
end Go.Proofs.YtjcmdifpkafdkaaDoor
namespace Go.Proofs.YtjcmdifpkafdkaaDoor
variable {P : Program} {G : Nat} {nt : Nat} {o : Oper} {ρ : Operand → Value} {v : Value}

noncomputable def closedOp (P : Program) (o : Oper) (ρ : Operand → Value) : Option Value :=
 match o.op with
 | .select _ _ => none
 | _ => if allR (fun x => closedV 3 (ρ x)) o.op.operands.toList = true then (match pureOf P (execOp ρ o) with | some (.value v) => if closedV 3 v then some v else none | _ => none) else none
theorem closedOp_vop (h : closedOp P o ρ = some v) : VOp P o ρ v := by
 unfold closedOp at h
 split at h
 ·cases h
 ·rename_i hsel
  split at h
  ·rename_i ha
   split at h
   ·rename_i v' hp
    split at h
    ·rename_i hc
     cases h
     rw [allR_eq, Array.all_toList] at ha
     exact vop_closed (fun cs b e => hsel cs b e) ha hp hc
    ·cases h
   ·cases h
  ·cases h
def isNilV : Value → Bool
 | .pointer none | .slice none _ _ | .map none | .nilFunc | .nilIface => true
 | _ => false
theorem isNilV_flat {x : Value} (h : isNilV x = true) : flatV x = true := by
 unfold isNilV at h
 split at h <;> first | rfl | cases h
noncomputable def binNil (P : Program) (op : BinOp) (t : TypeId) (x : Value) (y : Operand) : Option Value :=
 match op, y with
 | .eql, .const nil => if isNilV nil then (eqNilF P t x nil).map .bool else none
 | .neq, .const nil => if isNilV nil then (eqNilF P t x nil).map fun b => .bool (!b) else none
 | _, _ => none
theorem binNil_vop {op : BinOp} {t t' : TypeId} {x y : Operand} (hρ : ∀ v, ρ (.const v) = v) (ho : o.op = .binOp op t x y t') (h : binNil P op t (ρ x) y = some v) : VOp P o ρ v := by
 unfold binNil at h
 split at h
 ·split at h
  ·rename_i hn
   simp only [Option.map_eq_some_iff] at h
   obtain ⟨b, hb, rfl⟩ := h
   exact vop_eqNil ho (.inl rfl) (hρ _) (isNilV_flat hn) hb
  ·cases h
 ·split at h
  ·rename_i hn
   simp only [Option.map_eq_some_iff] at h
   obtain ⟨b, hb, rfl⟩ := h
   exact vop_eqNil ho (.inr rfl) (hρ _) (isNilV_flat hn) hb
  ·cases h
 ·cases h
inductive Res where
 | val (v : Value)
 | load (b off : Nat) (cs : List Value) (v : Value)
 | make (x : Blk2) (fm : Nat → Value)
 | eff (v : Value) (c : MCmd)
def rv (v : Value) : Option Res := some (.val v)
def ro : Option Value → Option Res
 | some v => some (.val v)
 | none => none
def iAnd (k : IntKind) (a b : Int) : Int := k.wrap (BitVec.ofInt k.bits a &&& BitVec.ofInt k.bits b).toNat
def iOr (k : IntKind) (a b : Int) : Int := k.wrap (BitVec.ofInt k.bits a ||| BitVec.ofInt k.bits b).toNat
def iXor (k : IntKind) (a b : Int) : Int := k.wrap (BitVec.ofInt k.bits a ^^^ BitVec.ofInt k.bits b).toNat
def iAndNot (k : IntKind) (a b : Int) : Int := k.wrap (BitVec.ofInt k.bits a &&& ~~~BitVec.ofInt k.bits b).toNat
def fastBin (op : BinOp) (k : IntKind) (a b : Int) : Option Value :=
 match op with
 | .add => some (.int k (k.wrap (a + b)))
 | .sub => some (.int k (k.wrap (a - b)))
 | .mul => some (.int k (k.wrap (a * b)))
 | .eql => some (.bool (a == b))
 | .neq => some (.bool (a != b))
 | .lss => some (.bool (a < b))
 | .leq => some (.bool (a ≤ b))
 | .gtr => some (.bool (a > b))
 | .geq => some (.bool (a ≥ b))
 | .quo => if b = 0 then none else some (.int k (k.wrap (a.tdiv b)))
 | .rem => if b = 0 then none else some (.int k (a.tmod b))
 | .and => some (.int k (iAnd k a b))
 | .or => some (.int k (iOr k a b))
 | .xor => some (.int k (iXor k a b))
 | .andNot => some (.int k (iAndNot k a b))
 | _ => none
theorem vop_fastBin {op : BinOp} {t t' : TypeId} {x y : Operand} {k : IntKind} {a b : Int} (ho : o.op = .binOp op t x y t') (hx : ρ x = .int k a) (hy : ρ y = .int k b) (h : fastBin op k a b = some v) : VOp P o ρ v := fun μ ρc hor => by
 rw [ho] at hor
 have h1 := hor x (by simp [Op.operands])
 have h2 := hor y (by simp [Op.operands])
 rw [hx] at h1
 rw [hy] at h2
 have h1 := flatV_eq rfl h1
 have h2 := flatV_eq rfl h2
 have hfl : flatV v = true := by
  unfold fastBin at h
  split at h <;> first | (cases h; rfl) | (split at h <;> cases h; rfl) | cases h
 refine ⟨v, .flat v hfl, fun w => ?_⟩
 unfold execOp
 simp only [ho, h1, h2]
 cases op <;> simp only [fastBin] at h <;> first | (cases h; simp [eqGuard, binOp, Op.intArith, Op.intCmp, Op.intBits, iAnd, iOr, iXor, iAndNot]; done) | (split at h <;> cases h <;> simp_all [eqGuard, binOp, Op.intDiv]; done) | (cases h; done)
def fastSh (op : BinOp) (k : IntKind) (a b : Int) : Option Value :=
 match b with
 | .ofNat n => (match op with
  | .shl => some (.int k (k.wrap (a * 2 ^ min n k.bits)))
  | .shr => some (.int k (a.fdiv (2 ^ min n k.bits)))
  | _ => none)
 | .negSucc _ => none
theorem vop_fastSh {op : BinOp} {t t' : TypeId} {x y : Operand} {k k' : IntKind} {a b : Int} (ho : o.op = .binOp op t x y t') (hx : ρ x = .int k a) (hy : ρ y = .int k' b) (h : fastSh op k a b = some v) : VOp P o ρ v := fun μ ρc hor => by
 rw [ho] at hor
 have h1 := hor x (by simp [Op.operands])
 have h2 := hor y (by simp [Op.operands])
 rw [hx] at h1
 rw [hy] at h2
 have g1 := flatV_eq rfl h1
 have g2 := flatV_eq rfl h2
 clear h1 h2
 unfold fastSh at h
 split at h
 ·rename_i n
  have hn : ¬ ((n : Int) < 0) := by omega
  split at h
  ·cases h
   refine ⟨_, .flat _ rfl, fun w => ?_⟩
   unfold execOp
   simp only [ho, g1, g2]
   simp [eqGuard, binOp, Op.shift, hn]
  ·cases h
   refine ⟨_, .flat _ rfl, fun w => ?_⟩
   unfold execOp
   simp only [ho, g1, g2]
   simp [eqGuard, binOp, Op.shift, hn]
  ·cases h
 ·cases h
def fastUn (op : UnOp) (x : Value) : Option Value :=
 match op, x with
 | .not, .bool b => some (.bool (!b))
 | .neg, .int k n => some (.int k (k.wrap (0 - n)))
 | _, _ => none
theorem vop_fastUn {op : UnOp} {t : TypeId} {x : Operand} (ho : o.op = .unOp op t x) (h : fastUn op (ρ x) = some v) : VOp P o ρ v := fun μ ρc hor => by
 rw [ho] at hor
 have h1 := hor x (by simp [Op.operands])
 unfold fastUn at h
 split at h
 ·rename_i b hx
  cases h
  rw [hx] at h1
  have h1 := flatV_eq rfl h1
  refine ⟨_, .flat _ rfl, fun w => ?_⟩
  unfold execOp
  simp [ho, h1, Op.unary]
 ·rename_i k n hx
  cases h
  rw [hx] at h1
  have h1 := flatV_eq rfl h1
  refine ⟨_, .flat _ rfl, fun w => ?_⟩
  unfold execOp
  simp [ho, h1, Op.unary, Op.intArith]
 ·cases h
noncomputable def sPick (ρ : Operand → Value) (c a b : Operand) : Option Res := match ρ c with | .bool t => rv (if t then ρ a else ρ b) | _ => none
noncomputable def sNil (ρ : Operand → Value) (x : Operand) : Option Res := cond (okNil (ρ x)) (rv (ρ x)) none
noncomputable def sExt (ρ : Operand → Value) (t : Operand) (i : Nat) : Option Res := match ρ t with | .tuple vs => ro (nthL vs.toList i) | _ => none
noncomputable def sMkF (ρ : Operand → Value) (fn : Fn) (f c : Array Operand) : Option Res := cond (isYield fn) none (rv (.func fn (f.map ρ) (c.map ρ)))
noncomputable def sMkI (P : Program) (ρ : Operand → Value) (t : TypeId) (x : Operand) : Option Res := match uT P t with | some d => cond (notIface d) (rv (.iface t (ρ x))) none | none => none
noncomputable def sIdx (P : Program) (o : Oper) (ρ : Operand → Value) (t : TypeId) (x ix : Operand) : Option Res := match ρ x with | .agg _ => ro (indexF P t (ρ x) (ρ ix)) | _ => ro (closedOp P o ρ)
noncomputable def sSlc3 (P : Program) (ρ : Operand → Value) (t : TypeId) (x : Operand) (lo hi mx : Option Operand) : Option Res := match hi, mx with
 | some h, some m => ro (slice3F P t (ρ x) (lo.map ρ) (ρ h) (ρ m))
 | _, _ => ro (sliceF P t (ρ x) (lo.map ρ) (hi.map ρ) (mx.map ρ))
noncomputable def sSlc (P : Program) (o : Oper) (ρ : Operand → Value) (t : TypeId) (x : Operand) (lo hi mx : Option Operand) : Option Res := match ρ x with | .string _ => ro (closedOp P o ρ) | _ => sSlc3 P ρ t x lo hi mx
noncomputable def sBin3 (P : Program) (o : Oper) (ρ : Operand → Value) : Option Value → Option Res
 | some v => rv v
 | none => ro (closedOp P o ρ)
noncomputable def sBin2 (P : Program) (o : Oper) (ρ : Operand → Value) (op : BinOp) (t : TypeId) (x y : Operand) : Option Res := match binNil P op t (ρ x) y with | some v => rv v | none => sBin3 P o ρ (ptrEq P op t (ρ x) (ρ y))
noncomputable def sBin4 (P : Program) (o : Oper) (ρ : Operand → Value) : Option Value → Option Res
 | some v => rv v
 | none => ro (closedOp P o ρ)
noncomputable def sBin1 (P : Program) (o : Oper) (ρ : Operand → Value) (r : Option Value) : Option Value → Option Res
 | some v => rv v
 | none => sBin4 P o ρ r
noncomputable def sBin (P : Program) (o : Oper) (ρ : Operand → Value) (op : BinOp) (t : TypeId) (x y : Operand) : Option Res := match ρ x with
 | .int k a => (match ρ y with
  | .int k' b => cond (k == k') (sBin1 P o ρ (fastSh op k a b) (fastBin op k a b)) (sBin4 P o ρ (fastSh op k a b))
  | _ => none)
 | _ => sBin2 P o ρ op t x y
noncomputable def sUn (P : Program) (o : Oper) (ρ : Operand → Value) (op : UnOp) (x : Operand) : Option Res := sBin4 P o ρ (fastUn op (ρ x))
noncomputable def sBld (P : Program) (ρ : Operand → Value) (t : TypeId) (ps : Array (Nat × Operand)) : Option Res := ro (buildL P t (ps.toList.map fun (i, x) => (i, ρ x)))
noncomputable def sLen (P : Program) (o : Oper) (ρ : Operand → Value) (c : Call) : Option Res := match c.args.toList, c.argTypes.toList with
 | [x], [t] => (match ρ x with | .slice _ _ _ => ro (lenF P t (ρ x)) | _ => ro (closedOp P o ρ))
 | _, _ => none
def rEff : Option (Value × MCmd) → Option Res
 | some (v, c) => some (.eff v c)
 | none => none
def rUpd : Option MCmd → Option Res
 | some c => some (.eff undef c)
 | none => none
def rLk : Option Value → Option Res
 | some v => some (.eff v .same)
 | none => none
noncomputable def sApp (G : Nat) (P : Program) (σ : Mem) (ρ : Operand → Value) (c : Call) : Option Res := match c.args.toList, c.argTypes.toList with
 | [s, x], [t, u] => rEff (appendF G P σ t u (ρ s) (ρ x))
 | _, _ => none
noncomputable def sCpy (G : Nat) (P : Program) (σ : Mem) (ρ : Operand → Value) (c : Call) : Option Res := match c.args.toList, c.argTypes.toList with
 | [d, x], [t, _] => rEff (copyF G P σ t (ρ d) (ρ x))
 | _, _ => none
noncomputable def sClr (G : Nat) (P : Program) (σ : Mem) (ρ : Operand → Value) (c : Call) : Option Res := match c.args.toList, c.argTypes.toList with
 | [x], [t] => rUpd (clearF G P σ t (ρ x))
 | _, _ => none
def rUst : Option (ByteArray × Option Nat) → Option Res
 | some (s, some b) => some (.eff (.string s) (.kill b))
 | some (s, none) => some (.eff (.string s) .same)
 | none => none
noncomputable def sUst (G : Nat) (P : Program) (σ : Mem) (ρ : Operand → Value) (c : Call) : Option Res := match c.args.toList, c.argTypes.toList with
 | [x, y], [pt, _] => rUst (ustrF G P σ pt (ρ x) (ρ y))
 | _, _ => none
noncomputable def sDat (ρ : Operand → Value) (c : Call) : Option Res := match c.args.toList with
 | [x] => ro (dataF (ρ x))
 | _ => none
noncomputable def sCap (P : Program) (_o : Oper) (ρ : Operand → Value) (c : Call) : Option Res := match c.args.toList, c.argTypes.toList with
 | [x], [t] => (match uT P t with
  | some (.slice _) => ro (capF (ρ x))
  | _ => none)
 | _, _ => none
noncomputable def sBlt (G : Nat) (P : Program) (σ : Mem) (o : Oper) (ρ : Operand → Value) (c : Call) (b : Builtin) : Option Res := match b with
 | .len => sLen P o ρ c
 | .append => sApp G P σ ρ c
 | .copy => sCpy G P σ ρ c
 | .min => ro (closedOp P o ρ)
 | .max => ro (closedOp P o ρ)
 | .clear => sClr G P σ ρ c
 | .cap => sCap P o ρ c
 | .unsafeString => sUst G P σ ρ c
 | .unsafeSliceData => sDat ρ c
 | _ => none
noncomputable def sCal (G : Nat) (P : Program) (σ : Mem) (o : Oper) (ρ : Operand → Value) (c : Call) : Option Res := match c.callee with
 | .builtin b => sBlt G P σ o ρ c b
 | .value _ => ro (closedOp P o ρ)
 | _ => none
def rLoad (b p : Nat) (cs : List Value) : Option Value → Option Res
 | some v => some (.load b p cs v)
 | none => none
noncomputable def sLd3 (P : Program) (t : TypeId) (b p : Nat) : Option Value → Option Res
 | some c => rLoad b p [c] (varF P t [c])
 | none => none
noncomputable def sLd2 (P : Program) (t : TypeId) (b p : Nat) (r : Row) : Option Nat → Option Res
 | some n => cond (Nat.beq n 1) (sLd3 P t b p (nthL r.cs p)) (cond (Nat.ble (p + n) r.cs.length) (rLoad b p ((r.cs.drop p).take n) (varF P t ((r.cs.drop p).take n))) none)
 | none => none
noncomputable def sLd1 (P : Program) (σ : Mem) (t : TypeId) (b p : Nat) : Option Res := match σ.get b with
 | some (.row r) => (match uT P t with
  | some d => sLd2 P t b p r (if isAggD d then sizeT P t else some 1)
  | none => none)
 | _ => none
noncomputable def sLd (P : Program) (σ : Mem) (ρ : Operand → Value) (t : TypeId) (x : Operand) : Option Res := match ρ x with
 | .pointer (some ⟨b, p, none⟩) => sLd1 P σ t b p
 | _ => none
def rBack (b p : Nat) (cs : List Value) : Option ByteArray → Option Res
 | some s => some (.load b p cs (.string s))
 | none => none
def rStr : Option ByteArray → Option Res
 | some s => some (.val (.string s))
 | none => none
noncomputable def sBack (P : Program) (σ : Mem) (src dst : TypeId) (b p n : Nat) : Option Res := cond (Nat.beq n 0) (rStr (backF P src dst [])) <| match σ.get b with
 | some (.row r) => cond (Nat.ble (p + n) r.cs.length) (rBack b p ((r.cs.drop p).take n) (backF P src dst ((r.cs.drop p).take n))) none
 | _ => none
noncomputable def sFwd (P : Program) (σ : Mem) (o : Oper) (ρ : Operand → Value) : Option (TypeId × List Value) → Option Res
 | some (e, cs) => some (.eff (.slice (some ⟨σ.next, 0, some 1⟩) cs.length cs.length) (.push (.row ⟨cs, e, true⟩)))
 | none => ro (closedOp P o ρ)
def rSelf (v : Value) : Option MCmd → Option Res
 | some c => some (.eff v c)
 | none => none
noncomputable def sCnv (G : Nat) (P : Program) (σ : Mem) (o : Oper) (ρ : Operand → Value) (src dst : TypeId) (x : Operand) : Option Res := match ρ x with
 | .slice (some ⟨b, p, _⟩) n _ => cond (Nat.beq src dst) (rSelf (ρ x) (selfF G P σ src dst (ρ x))) (sBack P σ src dst b p n)
 | .string s => sFwd P σ o ρ (convF P src dst s)
 | .pointer (some _) => cond (ptrF G P σ src dst (ρ x)) (some (.eff (ρ x) .same)) none
 | _ => ro (closedOp P o ρ)
noncomputable def sAlc (P : Program) (t : TypeId) : Option Res := match zeroT P t with | some z => cond (closedV 2 z) (some (.make (.row ⟨z.cells.toList, t, false⟩) fun b => .pointer (some ⟨b, 0, none⟩))) none | none => none
noncomputable def sBSl (P : Program) (ρ : Operand → Value) (t : TypeId) (len : Nat) (ps : Array (Nat × Operand)) : Option Res := match buildSliceF P t len (ps.toList.map fun (i, x) => (i, ρ x)) with | some (e, cs) => some (.make (.row ⟨cs, e, false⟩) fun b => .slice (some ⟨b, 0, none⟩) len len) | none => none
noncomputable def sMkS (P : Program) (ρ : Operand → Value) (t : TypeId) (x y : Operand) : Option Res := match makeSliceF P t (ρ x) (ρ y) with | some (e, cs, l, c) => some (.make (.row ⟨cs, e, false⟩) fun b => .slice (some ⟨b, 0, none⟩) l c) | none => none
noncomputable def sMkM : Option Operand → Option Res
 | none => some (.make (.ents [] 0) fun b => .map (some b))
 | some _ => none
noncomputable def sRng (P : Program) (ρ : Operand → Value) (t : TypeId) (x : Operand) : Option Res := match uT P t, ρ x with | some .string, .string s => some (.make (.iter s 0) fun b => .pointer (some ⟨b, 0, none⟩)) | _, _ => none
def isOne : Option Nat → Bool
 | some n => Nat.beq n 1
 | none => false
noncomputable def sSt2 (G : Nat) (P : Program) (t : TypeId) (b p : Nat) (v : Value) (r : Row) (c : Value) : List Value → Option Res
 | [] => cond (cond (Nat.ble G b) (cond (isOne (sizeT P t)) (cond (nthL r.cs p).isSome c.oneCell' false) false) false) (some (.eff undef (.put b (.row ⟨setR r.cs c p, r.t, r.g⟩)))) none
 | _ :: _ => cond (Nat.ble G b && (sizeT P t == some v.cells.size) && Nat.ble (p + v.cells.size) r.cs.length && allA (·.oneCell') v.cells) (some (.eff undef (.put b (.row ⟨overL r.cs p v.cells.toList, r.t, r.g⟩)))) none
noncomputable def sSt1 (G : Nat) (P : Program) (σ : Mem) (t : TypeId) (b p : Nat) (v : Value) : Option Res := match σ.get b with
 | some (.row r) => (match v.cells.toList with
  | [] => cond (Nat.ble G b && (sizeT P t == some v.cells.size) && Nat.ble (p + v.cells.size) r.cs.length && allA (·.oneCell') v.cells) (some (.eff undef (.put b (.row ⟨overL r.cs p v.cells.toList, r.t, r.g⟩)))) none
  | c :: cs => sSt2 G P t b p v r c cs)
 | _ => none
noncomputable def sSt (G : Nat) (P : Program) (σ : Mem) (ρ : Operand → Value) (t : TypeId) (a x : Operand) : Option Res := match ρ a with
 | .pointer (some ⟨b, p, none⟩) => sSt1 G P σ t b p (ρ x)
 | _ => none
noncomputable def sNx1 (G b : Nat) (s : ByteArray) (pos : Nat) : Option Res := cond (Nat.ble G b) (some (.eff (nextF s pos).1 (.put b (.iter s (nextF s pos).2)))) none
noncomputable def sNx (G : Nat) (σ : Mem) (ρ : Operand → Value) (it : Operand) : Bool → Option Res
 | true => (match ρ it with
  | .pointer (some ⟨b, 0, none⟩) => (match σ.get b with
   | some (.iter s pos) => sNx1 G b s pos
   | _ => none)
  | _ => none)
 | false => none
noncomputable def stepOp (G : Nat) (P : Program) (σ : Mem) (o : Oper) (ρ : Operand → Value) : Option Res :=
 match o.op with
 | .move x => rv (ρ x)
 | .assign x => rv (ρ x)
 | .pick c a b => sPick ρ c a b
 | .nilCheck x => sNil ρ x
 | .extract t i => sExt ρ t i
 | .makeFunc fn f c => sMkF ρ fn f c
 | .makeInterface t x => sMkI P ρ t x
 | .fieldAddr t x i => ro (fieldAddrF P t (ρ x) i)
 | .field t x i => ro (fieldF P t (ρ x) i)
 | .indexAddr t x ix => ro (indexAddrF P t (ρ x) (ρ ix))
 | .index t x ix => sIdx P o ρ t x ix
 | .slice t x lo hi mx => sSlc P o ρ t x lo hi mx
 | .build t ps => sBld P ρ t ps
 | .typeAssert x _ t ok => ro (assertF P (ρ x) t ok)
 | .binOp op t x y _ => sBin P o ρ op t x y
 | .unOp op _ x => sUn P o ρ op x
 | .convert src dst x => sCnv G P σ o ρ src dst x
 | .call c => sCal G P σ o ρ c
 | .load t x => sLd P σ ρ t x
 | .alloc t => sAlc P t
 | .box t x => some (.make (.row ⟨(ρ x).cells.toList, t, false⟩) fun b => .pointer (some ⟨b, 0, none⟩))
 | .buildSlice t len ps => sBSl P ρ t len ps
 | .makeSlice t x y => sMkS P ρ t x y
 | .makeMap _ r => sMkM r
 | .range t x => sRng P ρ t x
 | .store t a x => sSt G P σ ρ t a x
 | .lookup t m k ok => rLk (lookupF P σ t (ρ m) (ρ k) ok)
 | .mapUpdate t m k x => rUpd (updateF G P σ t (ρ m) (ρ k) (ρ x))
 | .insert t m k x => rUpd (updateF G P σ t (ρ m) (ρ k) (ρ x))
 | .next it s => sNx G σ ρ it s
 | _ => none
def Res.Right (G : Nat) (P : Program) (σ : Mem) (o : Oper) (ρ : Operand → Value) : Res → Prop
 | .val v => VOp P o ρ v
 | .load b off cs v => LOp P o ρ b off cs v ∧ (∀ μ ρc, ORel μ ρ ρc o.op.operands → ∃ bi, μ b = some bi) ∧ ∃ r, σ.get b = some (.row r) ∧ ∀ (i : Nat) x, cs[i]? = some x → r.cs[off + i]? = some x
 | .make x fm => AOp P o ρ x fm
 | .eff v c => EOp G P o ρ σ v (c.app σ)
theorem ro_right {σ : Mem} {r : Res} {x : Option Value} (h : ro x = some r) (k : ∀ v, x = some v → VOp P o ρ v) : r.Right G P σ o ρ := by
 cases x with
 | none => cases h
 | some v => cases h; exact k v rfl
theorem two_list {α : Type} {a : Array α} {x y : α} (h : a.toList = [x, y]) : a = #[x, y] := by apply Array.ext'; simpa using h
theorem stepOp_right {σ : Mem} {r : Res} (hρ : ∀ v, ρ (.const v) = v) (h : stepOp G P σ o ρ = some r) : r.Right G P σ o ρ := by
  unfold stepOp at h
  split at h
  · rename_i x ho; cases h; exact vop_move (.inl ho)
  · rename_i x ho; cases h; exact vop_move (.inr ho)
  · rename_i c a b ho
    unfold sPick at h
    split at h
    · rename_i t hc; cases h; exact vop_pick ho hc
    · cases h
  · rename_i x ho
    unfold sNil at h
    cases hx : okNil (ρ x) with
    | false => rw [hx] at h; cases h
    | true => rw [hx] at h; cases h; exact vop_nilCheck ho hx
  · rename_i t i ho
    unfold sExt at h
    split at h
    · rename_i vs ht; exact ro_right h fun v hv => vop_extract ho ht (by rw [nthL_eq] at hv; simpa using hv)
    · cases h
  · rename_i fn f c ho
    unfold sMkF at h
    cases hy : isYield fn with
    | true => rw [hy] at h; cases h
    | false => rw [hy] at h; cases h; exact vop_makeFunc ho hy
  · rename_i t x ho
    unfold sMkI at h
    try simp only [uT_eq] at h
    split at h
    · rename_i d hd
      cases hn : notIface d with
      | false => rw [hn] at h; cases h
      | true => rw [hn] at h; cases h; exact vop_makeInterface ho hd hn
    · cases h
  · rename_i t x i ho; exact ro_right h fun v hv => vop_fieldAddr ho hv
  · rename_i t x i ho; exact ro_right h fun v hv => vop_field ho hv
  · rename_i t x ix ho; exact ro_right h fun v hv => vop_indexAddr ho hv
  · rename_i t x ix ho
    unfold sIdx at h
    split at h
    · exact ro_right h fun v hv => vop_index ho hv
    · exact ro_right h fun v hv => closedOp_vop hv
  · rename_i t x lo hi mx ho
    unfold sSlc at h
    split at h
    · exact ro_right h fun v hv => closedOp_vop hv
    · unfold sSlc3 at h
      split at h
      · exact ro_right h fun v hv => vop_slice3 ho hv
      · exact ro_right h fun v hv => vop_slice ho hv
  · rename_i t ps ho; exact ro_right h fun v hv => vop_build ho (buildL_eq hv)
  · rename_i x xt t ok ho; exact ro_right h fun v hv => vop_assert ho hv
  · rename_i op t x y t' ho
    unfold sBin at h
    split at h
    · rename_i k a hx
      split at h
      · rename_i k' b hy
        cases hk : (k == k') with
        | false =>
          rw [hk] at h
          simp only [cond_false] at h
          unfold sBin4 at h
          split at h
          · rename_i v hf; cases h; exact vop_fastSh ho hx hy hf
          · exact ro_right h fun v hv => closedOp_vop hv
        | true =>
          rw [hk] at h
          have hk' : k = k' := by simpa using hk
          subst hk'
          simp only [cond_true] at h
          unfold sBin1 at h
          split at h
          · rename_i v hf; cases h; exact vop_fastBin ho hx hy hf
          · unfold sBin4 at h
            split at h
            · rename_i v hf; cases h; exact vop_fastSh ho hx hy hf
            · exact ro_right h fun v hv => closedOp_vop hv
      · cases h
    · unfold sBin2 at h
      split at h
      · rename_i v' hb; cases h; exact binNil_vop hρ ho hb
      · unfold sBin3 at h
        split at h
        · rename_i v' hb; cases h; exact vop_ptrEq ho hb
        · exact ro_right h fun v hv => closedOp_vop hv
  · rename_i op t x ho
    unfold sUn sBin4 at h
    split at h
    · rename_i v hf; cases h; exact vop_fastUn ho hf
    · exact ro_right h fun v hv => closedOp_vop hv
  · rename_i src dst x ho
    unfold sCnv at h
    split at h
    · rename_i b p sp n c hx
      cases hsd : Nat.beq src dst with
      | true =>
        rw [hsd] at h
        simp only [cond_true] at h
        unfold rSelf at h
        split at h
        · rename_i cmd hcmd; cases h; exact eop_self ho hcmd
        · cases h
      | false =>
       rw [hsd] at h
       simp only [cond_false] at h
       unfold sBack at h
       cases hn0 : Nat.beq n 0 with
       | true =>
        rw [hn0] at h
        simp only [cond_true] at h
        obtain rfl : n = 0 := Nat.eq_of_beq_eq_true hn0
        unfold rStr at h
        split at h
        · rename_i s hs; cases h; exact vop_back0 ho hx hs
        · cases h
       | false =>
       rw [hn0] at h
       simp only [cond_false] at h
       split at h
       · rename_i r' hr
         cases hk : (Nat.ble (p + n) r'.cs.length) with
         | false => rw [hk] at h; cases h
         | true =>
           rw [hk] at h
           simp only [cond_true] at h
           have h0 : n ≠ 0 := fun e => by subst e; simp at hn0
           have hle : p + n ≤ r'.cs.length := by simpa using hk
           unfold rBack at h
           split at h
           · rename_i s hs
             cases h
             obtain ⟨h1, h2⟩ := lop_back ho hx h0 (by simp; omega) hs
             refine ⟨h1, h2, r', hr, fun i y hy => ?_⟩
             rw [List.getElem?_take] at hy
             split at hy
             · rw [List.getElem?_drop] at hy; exact hy
             · cases hy
           · cases h
       · cases h
    · rename_i s hx
      unfold sFwd at h
      split at h
      · rename_i e cs hcv; cases h; exact eop_conv ho hx hcv
      · exact ro_right h fun v hv => closedOp_vop hv
    · rename_i a hx
      cases hp : ptrF G P σ src dst (ρ x) with
      | false => rw [hx] at hp; rw [hx, hp] at h; cases h
      | true => rw [hx] at hp; rw [hx, hp] at h; cases h; rw [← hx] at hp ⊢; exact eop_ptr ho hp
    · exact ro_right h fun v hv => closedOp_vop hv
  · rename_i c ho
    unfold sCal at h
    split at h
    · rename_i b hc
      unfold sBlt at h
      split at h
      · unfold sLen at h
        split at h
        · rename_i x t ha ht
          split at h
          · exact ro_right h fun v hv => vop_len ho hc (by apply Array.ext'; simpa using ha) (by apply Array.ext'; simpa using ht) hv
          · exact ro_right h fun v hv => closedOp_vop hv
        · cases h
      · unfold sApp at h
        split at h
        · rename_i s x t u ha ht
          unfold rEff at h
          split at h
          · rename_i v cmd hap; cases h; exact eop_append ho hc (two_list ha) (two_list ht) hap
          · cases h
        · cases h
      · unfold sCpy at h
        split at h
        · rename_i d x t u ha ht
          unfold rEff at h
          split at h
          · rename_i v cmd hap; cases h; exact eop_copy ho hc (two_list ha) (two_list ht) hap
          · cases h
        · cases h
      · exact ro_right h fun v hv => closedOp_vop hv
      · exact ro_right h fun v hv => closedOp_vop hv
      · unfold sClr at h
        split at h
        · rename_i x t ha ht
          unfold rUpd at h
          split at h
          · rename_i cmd hcl; cases h; exact eop_clear ho hc (by apply Array.ext'; simpa using ha) (by apply Array.ext'; simpa using ht) hcl
          · cases h
        · cases h
      · unfold sCap at h
        try simp only [uT_eq] at h
        split at h
        · rename_i x t ha ht
          split at h
          · rename_i e hu; exact ro_right h fun v hv => vop_cap ho hc (by apply Array.ext'; simpa using ha) (by apply Array.ext'; simpa using ht) hu hv
          · cases h
        · cases h
      · unfold sUst at h
        split at h
        · rename_i x y pt it ha ht
          unfold rUst at h
          split at h
          · rename_i s b hu; cases h; exact eop_ustr ho hc (two_list ha) (two_list ht) hu
          · rename_i s hu; cases h; exact eop_ustr ho hc (two_list ha) (two_list ht) hu
          · cases h
        · cases h
      · unfold sDat at h
        split at h
        · rename_i x ha; exact ro_right h fun v hv => vop_data ho hc (by apply Array.ext'; simpa using ha) hv
        · cases h
      · cases h
    · exact ro_right h fun v hv => closedOp_vop hv
    · cases h
  · rename_i t x ho
    unfold sLd at h
    split at h
    · rename_i b p hx
      unfold sLd1 at h
      try simp only [uT_eq] at h
      split at h
      · rename_i r' hr
        split at h
        · rename_i d hd
          unfold sLd2 at h
          split at h
          · rename_i n hn
            cases hn1 : Nat.beq n 1 with
            | true =>
              rw [hn1] at h
              simp only [cond_true, nthL_eq] at h
              cases hc : r'.cs[p]? with
              | none => rw [hc] at h; cases h
              | some c =>
                rw [hc] at h
                simp only [sLd3] at h
                unfold rLoad at h
                split at h
                · rename_i v hv
                  cases h
                  obtain ⟨h1, h2⟩ := lop_load ho hx hv
                  refine ⟨h1, h2, r', hr, fun i y hy => ?_⟩
                  cases i with
                  | zero => simp at hy; subst hy; simpa using hc
                  | succ i => simp at hy
                · cases h
            | false =>
             rw [hn1] at h
             simp only [cond_false] at h
             cases hk : Nat.ble (p + n) r'.cs.length with
             | false => rw [hk] at h; cases h
             | true =>
               rw [hk] at h
               simp only [cond_true] at h
               unfold rLoad at h
               split at h
               · rename_i v hv
                 cases h
                 obtain ⟨h1, h2⟩ := lop_load ho hx hv
                 refine ⟨h1, h2, r', hr, fun i y hy => ?_⟩
                 rw [List.getElem?_take] at hy
                 split at hy
                 · rw [List.getElem?_drop] at hy; exact hy
                 · cases hy
               · cases h
          · cases h
        · cases h
      · cases h
    · cases h
  · rename_i t ho
    unfold sAlc at h
    split at h
    · rename_i z hz
      cases hc : closedV 2 z with
      | false => rw [hc] at h; cases h
      | true => rw [hc] at h; cases h; exact aop_alloc ho hz hc
    · cases h
  · rename_i t x ho; cases h; exact aop_box ho
  · rename_i t len ps ho
    unfold sBSl at h
    split at h
    · rename_i e cs hb; cases h; exact aop_buildSlice ho hb
    · cases h
  · rename_i t x y ho
    unfold sMkS at h
    split at h
    · rename_i e cs l c hb; cases h; exact aop_makeSlice ho hb
    · cases h
  · rename_i t r' ho
    cases r' with
    | none => cases h; exact aop_makeMap ho
    | some _ => cases h
  · rename_i t x ho
    unfold sRng at h
    try simp only [uT_eq] at h
    split at h
    · rename_i s hu hx; cases h; exact aop_range ho hu hx
    · cases h
  · rename_i t a x ho
    unfold sSt at h
    split at h
    · rename_i b p ha
      unfold sSt1 at h
      split at h
      · rename_i r' hr
        split at h
        · cases hk : (Nat.ble G b && (sizeT P t == some (ρ x).cells.size) && Nat.ble (p + (ρ x).cells.size) r'.cs.length && allA (·.oneCell') (ρ x).cells) with
          | false => rw [hk] at h; cases h
          | true =>
            rw [hk] at h
            cases h
            simp only [Bool.and_eq_true, beq_iff_eq] at hk
            obtain ⟨⟨⟨k1, k2⟩, k3⟩, k4⟩ := hk
            exact eop_store ho ha (by simpa using k1) hr k2 (by simpa using k3) (by rw [← allA_eq]; exact k4)
        · rename_i c cs hcs
          unfold sSt2 at h
          split at h
          · have hsz : (ρ x).cells.size = 1 := by rw [← Array.length_toList, hcs]; rfl
            cases hk1 : Nat.ble G b with
            | false => rw [hk1] at h; cases h
            | true =>
              cases hk2 : isOne (sizeT P t) with
              | false => rw [hk1, hk2] at h; cases h
              | true =>
                cases hk3 : (nthL r'.cs p).isSome with
                | false => rw [hk1, hk2, hk3] at h; cases h
                | true =>
                  cases hk4 : c.oneCell' with
                  | false => rw [hk1, hk2, hk3, hk4] at h; cases h
                  | true =>
                    rw [hk1, hk2, hk3, hk4] at h
                    cases h
                    have k2 : sizeT P t = some 1 := by
                      unfold isOne at hk2
                      split at hk2
                      · rename_i n hn; rw [hn, Nat.eq_of_beq_eq_true hk2]
                      · cases hk2
                    have k3 : p < r'.cs.length := by
                      rw [nthL_eq] at hk3
                      simpa using hk3
                    rw [setR_over k3, ← hcs]
                    refine eop_store ho ha (by simpa using hk1) hr (by rw [k2, hsz]) (by rw [hsz]; exact k3) ?_
                    rw [← Array.all_toList, hcs]
                    simp [hk4]
          · cases hk : (Nat.ble G b && (sizeT P t == some (ρ x).cells.size) && Nat.ble (p + (ρ x).cells.size) r'.cs.length && allA (·.oneCell') (ρ x).cells) with
            | false => rw [hk] at h; cases h
            | true =>
              rw [hk] at h
              cases h
              simp only [Bool.and_eq_true, beq_iff_eq] at hk
              obtain ⟨⟨⟨k1, k2⟩, k3⟩, k4⟩ := hk
              exact eop_store ho ha (by simpa using k1) hr k2 (by simpa using k3) (by rw [← allA_eq]; exact k4)
      · cases h
    · cases h
  · rename_i t m k ok ho
    unfold rLk at h
    split at h
    · rename_i v hl; cases h; exact eop_lookup ho hl
    · cases h
  · rename_i t m k x ho
    unfold rUpd at h
    split at h
    · rename_i cmd hl; cases h; exact eop_update (.inl ho) hl
    · cases h
  · rename_i t m k x ho
    unfold rUpd at h
    split at h
    · rename_i cmd hl; cases h; exact eop_update (.inr ho) hl
    · cases h
  · rename_i it s ho
    cases s with
    | false => cases h
    | true =>
      simp only [sNx] at h
      split at h
      · rename_i b hi
        split at h
        · rename_i s pos hx
          unfold sNx1 at h
          cases hb : Nat.ble G b with
          | false => rw [hb] at h; cases h
          | true => rw [hb] at h; cases h; exact eop_next ho hi (by simpa using hb) hx
        · cases h
      · cases h
  · cases h
end Go.Proofs.YtjcmdifpkafdkaaDoor
