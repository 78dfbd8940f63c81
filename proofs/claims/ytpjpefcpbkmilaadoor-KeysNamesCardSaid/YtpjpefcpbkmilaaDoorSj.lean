/-
  Effects on rows: stores, appends, copies, in the second memory. Over any program. Conditions: none.
-/
import Derived.Test.YtpjpefcpbkmilaaDoorSi
namespace Go.Proofs.YtpjpefcpbkmilaaDoor
variable {P : Program} {G : Nat} {nt : Nat} {o : Oper} {ρ : Operand → Value} {v : Value}

/-- Cells written over a row from p on. -/
def overL (cs : List Value) (p : Nat) (vs : List Value) : List Value := cs.take p ++ vs ++ cs.drop (p + vs.length)
theorem overL_len {cs vs : List Value} {p : Nat} (h : p + vs.length ≤ cs.length) : (overL cs p vs).length = cs.length := by
  simp [overL]; omega
theorem overL_get {cs vs : List Value} {p : Nat} (h : p + vs.length ≤ cs.length) (i : Nat) : (overL cs p vs)[i]? = if p ≤ i ∧ i < p + vs.length then vs[i - p]? else cs[i]? := by
  unfold overL
  rw [List.append_assoc, List.getElem?_append, List.length_take, Nat.min_eq_left (by omega)]
  by_cases h1 : i < p
  · rw [if_pos h1, if_neg (by omega), List.getElem?_take, if_pos h1]
  · rw [if_neg h1, List.getElem?_append]
    by_cases h2 : i - p < vs.length
    · rw [if_pos h2, if_pos (by omega)]
    · rw [if_neg h2, if_neg (by omega), List.getElem?_drop]
      congr 1
      omega
theorem storeCells_fz (g q : Nat) (t : TypeId) (fz : Nat × Nat) : ∀ (vs : List Value) (i : Nat) (cur : Array Value) (w : World), w.heap[g]? = some (.cells cur t fz) → (fz.2 = 0 ∨ cur.size ≤ fz.1) → q + i + vs.length ≤ cur.size → (∀ v ∈ vs, v.oneCell' = true) →
    (storeCells ⟨g, q, none⟩ vs i).run P w = .ok () (w.setRow g (overL cur.toList (q + i) vs).toArray)
  | [], i, cur, w, hg, _, _, _ => by
    simp only [storeCells, overL, List.append_nil, List.length_nil, Nat.add_zero, List.take_append_drop, Array.toArray_toList]
    rw [setRow_self w g cur t fz hg]
    rfl
  | v :: rest, i, cur, w, hg, hfz, hl, h1 => by
    have hi : q + i < cur.size := by simp at hl; omega
    have hcell : w.cell? ⟨g, q + i, none⟩ = some cur[q + i] := by simp [World.cell?, hg, hi]
    have hfro : w.frozen? ⟨g, q + i, none⟩ = false := by
      obtain ⟨lo, hi'⟩ := fz
      simp only [World.frozen?, hg, Bool.and_eq_false_iff, decide_eq_false_iff_not]
      simp only at hfz
      omega
    have hst : (store ((⟨g, q, none⟩ : Addr).add i) v).run P w = .ok () (w.setRow g (cur.setIfInBounds (q + i) v)) := by
      rw [add_none, run_store P w _ v _ (h1 v (by simp)), hcell]
      simp [hfro, setCell_eq_setRow w g (q + i) cur t fz v hg]
    have ih := storeCells_fz g q t fz rest (i + 1) (cur.setIfInBounds (q + i) v) (w.setRow g (cur.setIfInBounds (q + i) v)) (setRow_heap w g cur _ t _ hg) (by simpa using hfz) (by simp at hl ⊢; omega) (fun x hx => h1 x (by simp [hx]))
    simp only [storeCells, Sem.run_bind, hst, Result.andThen_ok, ih, setRow_setRow]
    congr 3
    have e := list_seg_step cur.toList (q + i) v rest (by simp at hl ⊢; omega)
    simpa [overL, Array.toList_setIfInBounds, Nat.add_assoc] using e
theorem setRow_other (w : World) (g : Nat) (c : Array Value) (B : Nat) (h : B ≠ g) : (w.setRow g c).heap[B]? = w.heap[B]? := by
  simp [World.setRow, Array.getElem?_modify, Ne.symm h]
/-- Cells are written into a row. -/
theorem Stp.write {σ : Mem} {μ : Mu} {w : World} (hs : Sim G μ σ w) (hG : G ≤ σ.next) {b : Nat} {r : Row} {bi : BI} (hb : G ≤ b) (hx : σ.get b = some (.row r)) (hm : μ b = some bi) {p : Nat} {vs vs' : List Value} (hp : p + vs.length ≤ r.cs.length) (hl : vs'.length = vs.length)
    (hv : ∀ (i : Nat) x x', vs[i]? = some x → vs'[i]? = some x' → VRel μ x x') (h1 : ∀ x ∈ vs, x.oneCell' = true) :
    ∃ w', (storeCells ⟨bi.blk, bi.sh + p, none⟩ vs').run P w = .ok () w' ∧ Stp G σ μ w (σ.put b (.row ⟨overL r.cs p vs, r.t, r.g⟩)) μ w' := by
  have hin := hs.blk b _ bi hx hm
  obtain ⟨cc, fz, t', hh, hf', hc⟩ := hin.lie
  obtain ⟨rfl, hf, hz, hgr⟩ := hf' (hs.rw_ b _ bi hb hx hm)
  have hlen : r.cs.length = bi.len := hin.len
  have hfit : bi.sh + p + vs'.length ≤ cc.size := by omega
  have h1' : ∀ x ∈ vs', x.oneCell' = true := fun x hx => by
    obtain ⟨i, hi, e⟩ := List.mem_iff_getElem.1 hx
    have hi' : i < vs.length := by omega
    have := hv i vs[i] vs'[i] (by simp [hi']) (by simp [hi])
    rw [← e, this.one]
    exact h1 _ (List.getElem_mem _)
  have hrun := storeCells_fz (P := P) bi.blk (bi.sh + p) r.t fz vs' 0 cc w hh (hf.imp (fun h => by rw [h]) id) (by simpa using hfit) h1'
  refine ⟨_, hrun, ?_⟩
  refine Stp.turn hs hG hb hx hm ?_ (by simp [World.setRow]) rfl rfl rfl (fun B hB => setRow_other _ _ _ _ hB)
  refine ⟨by simp [overL_len hp, hlen], _, fz, r.t, setRow_heap w bi.blk cc _ r.t fz hh, fun _ => ⟨rfl, ?_, ?_, hgr⟩, fun i x hi => ?_⟩
  · rcases hf with h | h
    · exact .inl h
    · refine .inr ?_
      have := overL_len (cs := cc.toList) (vs := vs') (p := bi.sh + p + 0) (by simpa using hfit)
      simp only [List.size_toArray, this, Array.length_toList]
      exact h
  · have := overL_len (cs := cc.toList) (vs := vs') (p := bi.sh + p + 0) (by simpa using hfit)
    simp only [List.size_toArray, this, Array.length_toList]
    exact hz
  · simp only [List.getElem?_toArray, Nat.add_zero]
    rw [overL_get (by simpa using hfit)]
    simp only at hi
    rw [overL_get hp] at hi
    by_cases hin' : p ≤ i ∧ i < p + vs.length
    · rw [if_pos hin'] at hi
      rw [if_pos (by omega), show bi.sh + i - (bi.sh + p) = i - p by omega]
      have hlt : i - p < vs'.length := by omega
      exact ⟨vs'[i - p], by simp [hlt], hv _ _ _ hi (by simp [hlt])⟩
    · rw [if_neg hin'] at hi
      rw [if_neg (by omega)]
      obtain ⟨v', h2, h3⟩ := hc i x hi
      exact ⟨v', by simpa using h2, h3⟩
theorem VRel.cells_list {μ : Mu} {x x' : Value} (h : VRel μ x x') : x'.cells.toList.length = x.cells.toList.length ∧ ∀ (i : Nat) y y', x.cells.toList[i]? = some y → x'.cells.toList[i]? = some y' → VRel μ y y' :=
  ⟨by simp [h.cells.1], fun i y y' h1 h2 => h.cells.2 i y y' (by simpa using h1) (by simpa using h2)⟩
/-- A store. -/
theorem eop_store {t : TypeId} {a x : Operand} {b p : Nat} {r : Row} {σ : Mem} (ho : o.op = .store t a x) (ha : ρ a = .pointer (some ⟨b, p, none⟩)) (hb : G ≤ b) (hx : σ.get b = some (.row r)) (hsz : sizeT P t = some (ρ x).cells.size) (hp : p + (ρ x).cells.size ≤ r.cs.length) (h1 : (ρ x).cells.all (·.oneCell') = true) :
    EOp G P o ρ σ undef (σ.put b (.row ⟨overL r.cs p (ρ x).cells.toList, r.t, r.g⟩)) := by
  refine ⟨Nat.le_refl _, fun μ w act hs hG _ hor K Q k rd => ?_⟩
  rw [ho] at hor
  have hv := hor x (by simp [Op.operands])
  have hav := hor a (by simp [Op.operands])
  rw [ha] at hav
  obtain ⟨bi, hm, e⟩ := hav.ptr_inv
  obtain ⟨w', hrun, hst⟩ := Stp.write (P := P) hs hG hb hx hm (p := p) (vs := (ρ x).cells.toList) (vs' := (act.eval x).cells.toList) (by simpa using hp) hv.cells_list.1 hv.cells_list.2 (fun y hy => Array.all_eq_true_iff_forall_mem.1 h1 y (by simpa using hy))
  refine wp_of_skip (w' := w') ?_ (k undef w' μ hst (VRel.undef μ))
  unfold execOp
  have hsz' : ¬ (act.eval x).cells.size ≠ (ρ x).cells.size := by simp [hv.cells.1]
  simp only [ho, Instr.storeAt, Sem.run_bind, e, Instr.sureAddr, Sem.run_pure, Result.andThen_ok, storeVar, sizeOf_run hsz, hsz', if_false, hrun]
end Go.Proofs.YtpjpefcpbkmilaaDoor
