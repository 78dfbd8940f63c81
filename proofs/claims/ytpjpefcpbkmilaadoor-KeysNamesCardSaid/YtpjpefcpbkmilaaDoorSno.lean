/-
  Code whose steps are open: a loop over a map hands its entries out in whatever order; all orders are gone through. Over any program. Conditions: none.
-/
import Derived.Test.YtpjpefcpbkmilaaDoorSr
import Derived.Maps.RangeRun
namespace Go.Proofs.YtpjpefcpbkmilaaDoor
variable {P : Program} {G : Nat} {nt : Nat}

/-- What code may come to. -/
abbrev Leaf := Exit × T Value × List DItem × EM
def leafNext (N : Nat) (l : List Leaf) : Bool := l.all fun x => Nat.ble x.2.2.2.next N
/-- Code of which each run comes to one of the leaves. -/
def NCode (G : Nat) (P : Program) (rd : Option Nat) (nt : Nat) (c : Code) (ta : Nat → Value) (dm : List DItem) (σ : Mem) (N : Nat) (L : List Leaf) : Prop :=
  ∀ μ w (a : Act) rc, Sim G μ σ w → G ≤ σ.next → (∀ b, σ.next ≤ b → b < N → μ b = none) → TRel μ nt ta a.tmps → DRel μ dm a.defers → RdRel μ rd rc → ∀ Q : Exit → Act → World → Prop,
    (∀ x ∈ L, ∀ (a' : Act) w' μ', DRel μ' x.2.2.1 a'.defers → Stp G σ μ w x.2.2.2.mem μ' w' → TRel μ' nt (tmG x.2.1) a'.tmps → Q x.1 a' w') → c.wpIn (FW rc) 0 P Q a w
variable {rd : Option Nat} {N : Nat}
theorem NCode.of {c : Code} {ta : Nat → Value} {dm dm' : List DItem} {σ : Mem} {ex : Exit} {tr : T Value} {e : EM} (h : SCode G P rd nt c ta dm σ ex (tmG tr) dm' e.mem) (hN : e.next ≤ N) : NCode G P rd nt c ta dm σ N [(ex, tr, dm', e)] :=
  fun μ w a rc hs hG hf ht hd hr Q hQ => h.2 μ w a rc hs hG (fun b h1 h2 => hf b h1 (Nat.lt_of_lt_of_le h2 hN)) ht hd hr Q fun a' w' μ' hd' hst htr => hQ _ (List.mem_singleton.2 rfl) a' w' μ' hd' hst htr
theorem fresh_on {μ μ' : Mu} {σ σ' : Mem} {w w' : World} (h : ∀ b, σ.next ≤ b → b < N → μ b = none) (s : Stp G σ μ w σ' μ' w') : ∀ b, σ'.next ≤ b → b < N → μ' b = none := fun b h1 h2 => by
  rw [s.ext b (.inr h1)]; exact h b (Nat.le_trans s.next h1) h2
theorem NCode.seq {x y : Code} {ta : Nat → Value} {dm : List DItem} {σ : Mem} {L L2 : List Leaf} (h : NCode G P rd nt x ta dm σ N L)
    (k : ∀ l ∈ L, (l.1 = .normal ∧ ∃ M, NCode G P rd nt y (tmG l.2.1) l.2.2.1 l.2.2.2.mem N M ∧ ∀ m ∈ M, m ∈ L2) ∨ (l.1 ≠ .normal ∧ l ∈ L2)) : NCode G P rd nt (.seq x y) ta dm σ N L2 :=
  fun μ w a rc hs hG hf ht hd hr Q hQ => wpIn_seq (h μ w a rc hs hG hf ht hd hr _ fun l hl a1 w1 μ1 hd1 hst htr => by
    rcases k l hl with ⟨he, M, hM, hsub⟩ | ⟨hne, hl2⟩
    · rw [he]
      exact hM μ1 w1 a1 rc hst.sim (Nat.le_trans hG hst.next) (fresh_on hf hst) htr hd1 (hr.ext hst.extE) Q fun m hm a2 w2 μ2 hd2 hst2 htr2 => hQ m (hsub m hm) a2 w2 μ2 hd2 (hst.trans hst2) htr2
    · have := hQ l hl2 a1 w1 μ1 hd1 hst htr
      obtain ⟨ex, tr, dm', e⟩ := l
      cases ex <;> first | exact absurd rfl hne | exact this)
theorem NCode.cond {x y : Code} {c : Operand} {b : Bool} {ta : Nat → Value} {dm : List DItem} {σ : Mem} {L : List Leaf} (hc : oper2 ta c = .bool b) (h : NCode G P rd nt (if b then x else y) ta dm σ N L) : NCode G P rd nt (.cond c x y) ta dm σ N L :=
  fun μ w a rc hs hG hf ht hd hr Q hQ => wpIn_cond (t := b) (by
    cases c with
    | tmp t => exact ((ht.2 t).bool_iff b).2 hc
    | const v => exact hc
    | global g => cases hc
    | func f => cases hc) (h μ w a rc hs hG hf ht hd hr Q hQ)
theorem NCode.block {id : Nat} {c : Code} {ta : Nat → Value} {dm : List DItem} {σ : Mem} {L : List Leaf} (h : NCode G P rd nt c ta dm σ N L) : NCode G P rd nt (.block id c) ta dm σ N (L.map fun l => (outOf id l.1, l.2)) :=
  fun μ w a rc hs hG hf ht hd hr Q hQ => wpIn_block (h μ w a rc hs hG hf ht hd hr _ fun l hl a1 w1 μ1 hd hst htr => by
    have := hQ _ (List.mem_map.2 ⟨l, hl, rfl⟩) a1 w1 μ1 hd hst htr
    obtain ⟨ex, tr, dm', e⟩ := l
    cases ex <;> simp only [Exit.inBlock, outOf] at this ⊢ <;> first | exact this | skip
    split at this
    · rw [if_pos (by assumption)]; exact this
    · rw [if_neg (by assumption)]; exact this)
theorem NCode.scope {c : Code} {ta : Nat → Value} {dm : List DItem} {σ : Mem} {L : List Leaf} (h : NCode G P rd nt c ta dm σ N L) (hg : ∀ l ∈ L, notGoto l.1 = true) : NCode G P rd nt (.scope c) ta dm σ N L :=
  fun μ w a rc hs hG hf ht hd hr _Q hQ => wpIn_scope (h μ w a rc hs hG hf ht hd hr _ fun l hl a1 w1 μ1 hd hst htr => ⟨hg l hl, hQ l hl a1 w1 μ1 hd hst htr⟩)
/-- So many rounds. -/
def NRounds (G : Nat) (P : Program) (rd : Option Nat) (nt : Nat) (n : Nat) (c : Code) (ta : Nat → Value) (dm : List DItem) (σ : Mem) (N : Nat) (L : List Leaf) : Prop :=
  ∀ μ w (a : Act) rc, Sim G μ σ w → G ≤ σ.next → (∀ b, σ.next ≤ b → b < N → μ b = none) → TRel μ nt ta a.tmps → DRel μ dm a.defers → RdRel μ rd rc → ∀ Q : Exit → Act → World → Prop,
    (∀ x ∈ L, ∀ (a' : Act) w' μ', DRel μ' x.2.2.1 a'.defers → Stp G σ μ w x.2.2.2.mem μ' w' → TRel μ' nt (tmG x.2.1) a'.tmps → Q x.1 a' w') → Code.roundsIn (FW rc) 0 P c Q n a w
theorem NRounds.loop {n : Nat} {c : Code} {ta : Nat → Value} {dm : List DItem} {σ : Mem} {L : List Leaf} (h : NRounds G P rd nt n c ta dm σ N L) : NCode G P rd nt (.loop c) ta dm σ N L :=
  fun μ w a rc hs hG hf ht hd hr Q hQ => wpIn_loop_rounds n (h μ w a rc hs hG hf ht hd hr Q hQ)
theorem NRounds.more {n : Nat} {c : Code} {ta : Nat → Value} {dm : List DItem} {σ : Mem} {L L2 : List Leaf} (h : NCode G P rd nt c ta dm σ N L)
    (k : ∀ l ∈ L, (l.1 = .normal ∧ ∃ M, NRounds G P rd nt n c (tmG l.2.1) l.2.2.1 l.2.2.2.mem N M ∧ ∀ m ∈ M, m ∈ L2) ∨ (l.1 ≠ .normal ∧ l ∈ L2)) : NRounds G P rd nt (n + 1) c ta dm σ N L2 :=
  fun μ w a rc hs hG hf ht hd hr Q hQ => h μ w a rc hs hG hf ht hd hr _ fun l hl a1 w1 μ1 hd1 hst htr => by
    rcases k l hl with ⟨he, M, hM, hsub⟩ | ⟨hne, hl2⟩
    · rw [he]
      exact hM μ1 w1 a1 rc hst.sim (Nat.le_trans hG hst.next) (fresh_on hf hst) htr hd1 (hr.ext hst.extE) Q fun m hm a2 w2 μ2 hd2 hst2 htr2 => hQ m (hsub m hm) a2 w2 μ2 hd2 (hst.trans hst2) htr2
    · have := hQ l hl2 a1 w1 μ1 hd1 hst htr
      obtain ⟨ex, tr, dm', e⟩ := l
      cases ex <;> first | exact absurd rfl hne | exact this
/-- An operation that comes to one of several values and memories. -/
def EOpN (G : Nat) (P : Program) (o : Oper) (ρ : Operand → Value) (e : EM) (N : Nat) (L : List (Value × EM)) : Prop :=
  ∀ μ w (a : Act), Sim G μ e.mem w → G ≤ e.mem.next → (∀ b, e.mem.next ≤ b → b < N → μ b = none) → ORel μ ρ a.eval o.op.operands → ∀ (K : Act → World → Prop) (Q : Exit → Act → World → Prop),
    (∀ x ∈ L, ∀ vc w' μ', Stp G e.mem μ w x.2.mem μ' w' → VRel μ' x.1 vc → K (a.put o.dst vc) w') → ∀ rd, o.wpIn (FW rd) 0 P a w K Q
theorem EOpN.of {o : Oper} {ρ : Operand → Value} {e e' : EM} {v : Value} (h : EOp G P o ρ e.mem v e'.mem) (hN : e'.next ≤ N) : EOpN G P o ρ e N [(v, e')] :=
  fun μ w a hs hG hf hor K Q k rd => h.2 μ w a hs hG (fun b h1 h2 => hf b h1 (Nat.lt_of_lt_of_le h2 hN)) hor K Q (fun vc w' μ' hst hv => k _ (List.mem_singleton.2 rfl) vc w' μ' hst hv) rd
/-- An iteration over a map begins. -/
noncomputable def rangeM (P : Program) (e : EM) (o : Oper) (ρ : Operand → Value) : Option (Value × EM) := match o.op with
  | .range t x => (match uT P t, ρ x with
    | some (.map _ _), .map (some m) => (match e.mem.get m with
      | some (.ents es cl) => cond (Nat.ble es.length cl) (some (.pointer (some ⟨e.next, 0, none⟩), e.push (.b (.mit m cl [] cl)))) none
      | _ => none)
    | _, _ => none)
  | _ => none
theorem rangeM_right {e e' : EM} {o : Oper} {ρ : Operand → Value} {v : Value} (h : rangeM P e o ρ = some (v, e')) : EOp G P o ρ e.mem v e'.mem := by
  unfold rangeM at h
  split at h
  · rename_i t x ho
    split at h
    · rename_i kt vt m hu hx
      split at h
      · rename_i es cl hm
        cases hb : Nat.ble es.length cl with
        | false => rw [hb] at h; cases h
        | true =>
          rw [hb] at h
          cases h
          rw [EM.mem_push]
          refine ⟨by simp [Mem.push], fun μ w a hs hG hf hor K Q k rd => ?_⟩
          rw [ho] at hor
          have h1 := hor x (by simp [Op.operands])
          rw [hx] at h1
          obtain ⟨mbi, hmb, hxc⟩ : ∃ mbi : BI, μ m = some mbi ∧ a.eval x = .map (some mbi.blk) := by
            generalize a.eval x = z at h1
            cases h1 with
            | flat _ h => simp [flatV] at h
            | map b bi h => exact ⟨bi, h, rfl⟩
          obtain ⟨cc, hcc, _⟩ := hs.blk m _ mbi hm hmb
          have hr : (execOp a.eval o).run P w = .ok (.value (.pointer (some ⟨w.heap.size, 0, none⟩))) (w.alloc (.mapIter (some mbi.blk) cl #[] cl)) := by
            unfold execOp
            simp only [ho, Sem.run_bind, Instr.range, hxc]
            rw [uT_eq] at hu
            simp only [run_underlying hu, Result.andThen_ok, Sem.run_bind, getObj_run hcc (by simp), Sem.run_pure]
            rfl
          refine wp_of_value hr (k _ _ _ (Stp.push hs hG (hf _ (Nat.le_refl _) (by simp [Mem.push])) (x := toB (.b (.mit m cl [] cl))) ⟨mbi, hmb, rfl⟩) ?_)
          exact VRel.ptr e.next 0 _ (Mu.add_at _ _ _)
      · cases h
    · cases h
  · cases h
/-- An iteration over a map goes on. -/
noncomputable def candL (it m since : Nat) (seen : List Nat) (es : List (Value × Value)) (cl : Nat) (e : EM) : List (Value × EM) :=
  ((List.range es.length).filter fun i => !seen.contains i).map fun i => (.tuple #[.bool true, (es.getD i (undef, undef)).1, (es.getD i (undef, undef)).2], e.put it (.b (.mit m since (seen ++ [i]) cl)))
def orOver (e : EM) : List (Value × EM) → List (Value × EM)
  | [] => [(.tuple #[.bool false], e)]
  | l => l
noncomputable def nextM (G : Nat) (e : EM) (o : Oper) (ρ : Operand → Value) : Option (List (Value × EM)) := match o.op with
  | .next it false => (match ρ it with
    | .pointer (some ⟨b, 0, none⟩) => cond (Nat.ble G b) (match e.mem.get b with
      | some (.mit m since seen st) => (match e.mem.get m with
        | some (.ents es cl) => cond (Nat.ble es.length since && Nat.ble since st) (some (orOver e (candL b m since seen es cl e))) none
        | _ => none)
      | _ => none) none
    | _ => none)
  | _ => none
theorem leftOf_mem {cc : Array MapEntry} {seen : Array Nat} {x : MapEntry} (h : x ∈ (leftOf cc seen).toList) : x ∈ cc.toList ∧ x.born ∉ seen.toList := by
  unfold leftOf at h
  simp only [Array.toList_filter, List.mem_filter, Bool.not_eq_true'] at h
  refine ⟨h.1, fun hm => ?_⟩
  have := h.2
  simp at this
  exact this (by simpa using hm)
theorem nextM_right {e : EM} {o : Oper} {ρ : Operand → Value} {L : List (Value × EM)} (h : nextM G e o ρ = some L) : EOpN G P o ρ e N L := by
  unfold nextM at h
  split at h
  · rename_i it ho
    split at h
    · rename_i b hit
      cases hGb : Nat.ble G b with
      | false => rw [hGb] at h; cases h
      | true =>
        rw [hGb] at h
        simp only [cond_true] at h
        have hGb : G ≤ b := by simpa using hGb
        split at h
        · rename_i m since seen st0 hb
          split at h
          · rename_i es cl hm
            cases hk : (Nat.ble es.length since && Nat.ble since st0) with
            | false => rw [hk] at h; cases h
            | true =>
              rw [hk] at h
              cases h
              simp only [Bool.and_eq_true] at hk
              have k1 : es.length ≤ since := by simpa using hk.1
              have k2 : since ≤ st0 := by simpa using hk.2
              intro μ w a hs hG hf hor K Q k rd
              rw [ho] at hor
              have h1 := hor it (by simp [Op.operands])
              rw [hit] at h1
              obtain ⟨bi, hbm, hix⟩ := h1.ptr_inv
              obtain ⟨mbi, hmm, hin, hsh⟩ := hs.blk b _ bi hb hbm
              obtain ⟨cc, hcc, hsz, hes⟩ := hs.blk m _ mbi hm hmm
              have at_i : ∀ i (hi : i < cc.size), ∃ k v, es[i]? = some (k, v) ∧ VRel μ k cc[i].key ∧ VRel μ v cc[i].val ∧ cc[i].born = i := fun i hi => by
                have hi' : i < es.length := by rw [← hsz]; exact hi
                obtain ⟨ent, g1, g2, g3, g4⟩ := hes i es[i].1 es[i].2 (by simp [hi'])
                rw [Array.getElem?_eq_getElem hi] at g1
                cases g1
                exact ⟨es[i].1, es[i].2, by simp [hi'], g2, g3, g4⟩
              have hold : ∀ x ∈ cc.toList, x.born < since := fun x hx => by
                obtain ⟨i, hi, rfl⟩ := List.mem_iff_getElem.1 hx
                obtain ⟨_, _, _, _, _, g⟩ := at_i i (by simpa using hi)
                have : cc.toList[i] = cc[i]'(by simpa using hi) := by simp
                rw [this, g]
                have : i < cc.size := by simpa using hi
                omega
              have hrun := run_next_at (P := P) w o.type bi.blk mbi.blk since st0 seen.toArray cc cl hin hcc hold k2
              have hex : ∀ v w', (Instr.next (.pointer (some ⟨bi.blk, 0, none⟩)) false o.type).run P w = .ok v w' → (execOp a.eval o).run P w = .ok (.value v) w' := fun v w' hr => by
                unfold execOp
                have : a.eval it = .pointer (some ⟨bi.blk, 0, none⟩) := by rw [hix, hsh]
                simp only [ho, Sem.run_bind, this, hr, Result.andThen_ok, Sem.run_pure]
              have cmem : ∀ i, i < cc.size → i ∉ seen → ∀ k v, es[i]? = some (k, v) → (Value.tuple #[.bool true, k, v], e.put b (.b (.mit m since (seen ++ [i]) cl))) ∈ candL b m since seen es cl e := fun i hi hns k v hkv => by
                unfold candL
                refine List.mem_map.2 ⟨i, List.mem_filter.2 ⟨List.mem_range.2 (by omega), by simpa using hns⟩, ?_⟩
                simp [List.getD_eq_getElem?_getD, hkv]
              rcases hrun with ⟨h0, hr⟩ | ⟨ent, hent, w1, hw1, hr⟩
              · refine wp_of_value (hex _ _ hr) (k (.tuple #[.bool false], e) ?_ _ w μ (Stp.refl hs hG) (closedV_rel μ 3 _ rfl))
                cases hc : candL b m since seen es cl e with
                | nil => exact List.mem_singleton.2 rfl
                | cons y l =>
                  exfalso
                  have hy : y ∈ candL b m since seen es cl e := by rw [hc]; exact List.mem_cons_self
                  unfold candL at hy
                  obtain ⟨i, hi, _⟩ := List.mem_map.1 hy
                  obtain ⟨hi1, hi2⟩ := List.mem_filter.1 hi
                  have hi1 : i < cc.size := by rw [hsz]; exact List.mem_range.1 hi1
                  obtain ⟨_, _, _, _, _, g⟩ := at_i i hi1
                  have : cc[i] ∈ leftOf cc seen.toArray := by
                    unfold leftOf
                    refine Array.mem_filter.2 ⟨Array.getElem_mem hi1, ?_⟩
                    rw [g]
                    simpa using hi2
                  have hpos := Array.size_pos_of_mem this
                  omega
              · obtain ⟨hm1, hm2⟩ := leftOf_mem hent
                obtain ⟨i, hi, rfl⟩ := List.mem_iff_getElem.1 hm1
                have hi : i < cc.size := by simpa using hi
                have eq : cc.toList[i] = cc[i] := by simp
                rw [eq] at hm2 hr
                obtain ⟨kk, vv, g1, g2, g3, g4⟩ := at_i i hi
                rw [g4] at hm2 hr
                have hns : i ∉ seen := by simpa using hm2
                have hcm := cmem i hi hns kk vv g1
                have hw1h : w1.heap = w.heap ∧ w1.os = w.os ∧ w1.tape = w.tape ∧ w1.output = w.output := by
                  rcases hw1 with rfl | rfl
                  · exact ⟨rfl, rfl, rfl, rfl⟩
                  · exact ⟨rfl, rfl, rfl, rfl⟩
                have hblt := (Array.getElem?_eq_some_iff.1 hin).1
                have st : Stp G e.mem μ w (e.mem.put b (.mit m since (seen ++ [i]) cl)) μ (ChangeMaps.setBlock w1 bi.blk (.mapIter (some mbi.blk) since (seen.toArray.push i) cl)) := by
                  refine Stp.turn hs hG hGb hb hbm ⟨mbi, hmm, ?_, hsh⟩ ?_ hw1h.2.1 hw1h.2.2.1 hw1h.2.2.2 fun B hB => ?_
                  · unfold ChangeMaps.setBlock
                    simp [hw1h.1, hblt]
                  · unfold ChangeMaps.setBlock
                    simp [hw1h.1]
                  · unfold ChangeMaps.setBlock
                    simp [hw1h.1, Array.getElem?_setIfInBounds_ne (Ne.symm hB)]
                refine wp_of_value (hex _ _ hr) (k (.tuple #[.bool true, kk, vv], e.put b (.b (.mit m since (seen ++ [i]) cl))) ?_ _ _ μ (by rw [EM.mem_put]; exact st) ?_)
                · cases hc : candL b m since seen es cl e with
                  | nil => rw [hc] at hcm; cases hcm
                  | cons y l => rw [hc] at hcm; exact hcm
                · refine .tuple _ _ rfl fun j x x' h1 h2 => ?_
                  match j with
                  | 0 => simp at h1 h2; rw [← h1, ← h2]; exact .flat _ rfl
                  | 1 => simp at h1 h2; rw [← h1, ← h2]; exact g2
                  | 2 => simp at h1 h2; rw [← h1, ← h2]; exact g3
                  | j + 3 => simp at h1
          · cases h
        · cases h
    · cases h
  · cases h
/-- The entry at hand. -/
noncomputable def entryM (e : EM) (o : Oper) (ρ : Operand → Value) : Option Value := match o.op with
  | .entry it => (match ρ it with
    | .pointer (some ⟨b, 0, none⟩) => (match e.mem.get b with
      | some (.mit m _ seen st) => (match e.mem.get m, seen.reverse with
        | some (.ents es cl), i :: _ => cond (Nat.beq cl st) (match es[i]? with
          | some (k, v) => some (.tuple #[k, v])
          | none => none) none
        | _, _ => none)
      | _ => none)
    | _ => none)
  | _ => none
theorem entryM_right {e : EM} {o : Oper} {ρ : Operand → Value} {v : Value} (h : entryM e o ρ = some v) : EOp G P o ρ e.mem v e.mem := by
  unfold entryM at h
  split at h
  · rename_i it ho
    split at h
    · rename_i b hit
      split at h
      · rename_i m since seen st0 hb
        split at h
        · rename_i es cl i rest hm hrev
          cases hcl : Nat.beq cl st0 with
          | false => rw [hcl] at h; cases h
          | true =>
            rw [hcl] at h
            simp only [cond_true] at h
            split at h
            · rename_i kk vv hi
              cases h
              have hcl := Nat.eq_of_beq_eq_true hcl
              subst hcl
              have hseen : seen = rest.reverse ++ [i] := by
                have := congrArg List.reverse hrev
                simpa using this
              refine ⟨Nat.le_refl _, fun μ w a hs hG hf hor K Q k rd => ?_⟩
              rw [ho] at hor
              have h1 := hor it (by simp [Op.operands])
              rw [hit] at h1
              obtain ⟨bi, hbm, hix⟩ := h1.ptr_inv
              obtain ⟨mbi, hmm, hin, hsh⟩ := hs.blk b _ bi hb hbm
              obtain ⟨cc, hcc, hsz, hes⟩ := hs.blk m _ mbi hm hmm
              obtain ⟨ent, g1, g2, g3, g4⟩ := hes i kk vv hi
              have hin' : w.heap[bi.blk]? = some (.mapIter (some mbi.blk) since ((rest.reverse.toArray).push ent.born) cl) := by
                rw [hin, g4, hseen]
                simp
              have hnd : (cc.toList.map (·.born)).Nodup := by
                have : cc.toList.map (·.born) = List.range cc.size := by
                  apply List.ext_getElem?
                  intro j
                  rw [List.getElem?_map]
                  rcases Nat.lt_or_ge j cc.size with hj | hj
                  · have hj' : j < es.length := by rw [← hsz]; exact hj
                    obtain ⟨ej, q1, _, _, q4⟩ := hes j es[j].1 es[j].2 (by simp [hj'])
                    rw [Array.getElem?_toList, q1, List.getElem?_range hj]
                    simp [q4]
                  · rw [List.getElem?_eq_none (by simpa using hj), List.getElem?_eq_none (by simpa using hj)]
                    rfl
                rw [this]
                exact List.nodup_range
              have hr := run_entry_at (P := P) w bi.blk mbi.blk since rest.reverse.toArray cc cl ent hin' hcc (Array.mem_toList_iff.2 (Array.mem_of_getElem? g1)) hnd
              have hex : (execOp a.eval o).run P w = .ok (.value (.tuple #[ent.key, ent.val])) w := by
                unfold execOp
                have : a.eval it = .pointer (some ⟨bi.blk, 0, none⟩) := by rw [hix, hsh]
                simp only [ho, Sem.run_bind, this, hr, Result.andThen_ok, Sem.run_pure]
              refine wp_of_value hex (k _ w μ (Stp.refl hs hG) (.tuple _ _ rfl fun j x x' h1 h2 => ?_))
              match j with
              | 0 => simp at h1 h2; rw [← h1, ← h2]; exact g2
              | 1 => simp at h1 h2; rw [← h1, ← h2]; exact g3
              | j + 2 => simp at h1
            · cases h
        · cases h
      · cases h
    · cases h
  · cases h
/-- All that comes of all. -/
def collectL {α β : Type} (f : α → Option (List β)) : List α → Option (List β)
  | [] => some []
  | x :: l => (match f x with
    | some a => (match collectL f l with
      | some b => some (a ++ b)
      | none => none)
    | none => none)
theorem collectL_mem {α β : Type} {f : α → Option (List β)} : ∀ {l : List α} {L : List β}, collectL f l = some L → ∀ x ∈ l, ∃ a, f x = some a ∧ ∀ y ∈ a, y ∈ L
  | [], L, h, x, hx => by cases hx
  | z :: l, L, h, x, hx => by
    simp only [collectL] at h
    split at h
    · rename_i a ha
      split at h
      · rename_i b hb
        cases h
        rcases List.mem_cons.1 hx with rfl | hx
        · exact ⟨a, ha, fun y hy => List.mem_append_left _ hy⟩
        · obtain ⟨c, h1, h2⟩ := collectL_mem hb x hx
          exact ⟨c, h1, fun y hy => List.mem_append_right _ (h2 y hy)⟩
      · cases h
    · cases h
noncomputable def stepN (D : Doer) (G : Nat) (P : Program) (N : Nat) (e : EM) (o : Oper) (ρ : Operand → Value) : Option (List (Value × EM)) :=
  match nextM G e o ρ with
  | some L => some L
  | none => (match rangeM P e o ρ with
    | some (v, e') => cond (Nat.ble e'.next N) (some [(v, e')]) none
    | none => (match entryM e o ρ with
      | some v => cond (Nat.ble e.next N) (some [(v, e)]) none
      | none => (match opRun D G P e o ρ with
        | some (r, e') => cond (Nat.ble e'.next N) (some [(r.value e.mem, e')]) none
        | none => none)))
theorem stepN_right {D : Doer} (hD : D.Right G P) {e : EM} {o : Oper} {ρ : Operand → Value} {L : List (Value × EM)} (hρ : ∀ v, ρ (.const v) = v) (h : stepN D G P N e o ρ = some L) : EOpN G P o ρ e N L := by
  unfold stepN at h
  split at h
  · rename_i L' hn; cases h; exact nextM_right hn
  · split at h
    · rename_i v e' hr
      cases hb : Nat.ble e'.next N with
      | false => rw [hb] at h; cases h
      | true => rw [hb] at h; cases h; exact EOpN.of (rangeM_right hr) (by simpa using hb)
    · split at h
      · rename_i v hr
        cases hb : Nat.ble e.next N with
        | false => rw [hb] at h; cases h
        | true => rw [hb] at h; cases h; exact EOpN.of (entryM_right hr) (by simpa using hb)
      · split at h
        · rename_i r e' hr
          cases hb : Nat.ble e'.next N with
          | false => rw [hb] at h; cases h
          | true => rw [hb] at h; cases h; exact EOpN.of (opRun_right hD hρ hr).eop (by simpa using hb)
        · cases h
/-- A region in the text's order. -/
noncomputable def regN (D : Doer) (G : Nat) (P : Program) (nt N : Nat) (ops : Array Oper) : List Oper → T Value → EM → Option (List (T Value × EM))
  | [], tr, e => some [(tr, e)]
  | o :: l, tr, e => cond (wantedT ops (tmG tr) o)
      (cond (opndOk G o) (match stepN D G P N e o (oper2 (tmG tr)) with
        | some L => collectL (fun x => match putDst nt tr x.1 o.dst with
          | some tr1 => regN D G P nt N ops l tr1 x.2
          | none => none) L
        | none => none) none)
      (match putDst nt tr undef o.dst with
        | some tr1 => regN D G P nt N ops l tr1 e
        | none => none)
theorem regN_text {D : Doer} (hD : D.Right G P) {ops : Array Oper} {rc : Option Nat} : ∀ (l : List Oper) (j : Nat) (tr : T Value) (e : EM) (R : List (T Value × EM)), ops.toList.drop j = l → regN D G P nt N ops l tr e = some R →
    ∀ μ w (a : Act), Sim G μ e.mem w → G ≤ e.mem.next → (∀ b, e.mem.next ≤ b → b < N → μ b = none) → TRel μ nt (tmG tr) a.tmps → ∀ Q : Exit → Act → World → Prop, (∀ x ∈ R, ∀ (a' : Act) w' μ', a'.defers = a.defers → Stp G e.mem μ w x.2.mem μ' w' → TRel μ' nt (tmG x.1) a'.tmps → Q .normal a' w') → wpOpsIn (FW rc) 0 P ops Q (List.range' j l.length) a w := by
  intro l
  induction l with
  | nil =>
    intro j tr e R hj h μ w a hs hG _ ht Q hQ
    simp only [regN, Option.some.injEq] at h
    subst h
    exact hQ _ (List.mem_singleton.2 rfl) a w μ rfl (Stp.refl hs hG) ht
  | cons o l ih =>
    intro j tr e R hj h μ w a hs hG hf ht Q hQ
    have hjo : ops[j]? = some o := by
      have := congrArg List.head? hj
      rw [List.head?_drop] at this
      simpa using this
    have hj' : ops.toList.drop (j + 1) = l := by
      have := congrArg List.tail hj
      simpa using this
    simp only [regN] at h
    rw [List.length_cons, List.range'_succ]
    cases hw : wantedT ops (tmG tr) o with
    | false =>
      rw [hw] at h
      simp only [cond_false] at h
      split at h
      · rename_i tr1 hp
        simp only [wpOpsIn, hjo, wanted_of ht, hw, Bool.false_eq_true, if_false]
        refine ⟨fun _ _ => trivial, ih (j + 1) tr1 e R hj' h μ w _ hs hG hf (putDst_rel hp ht (VRel.undef μ)) Q fun x hx a' w' μ' hd hst htr => hQ x hx a' w' μ' (hd.trans ?_) hst htr⟩
        cases o.dst <;> rfl
      · cases h
    | true =>
      rw [hw] at h
      simp only [cond_true] at h
      cases hk : opndOk G o with
      | false => rw [hk] at h; cases h
      | true =>
        rw [hk] at h
        simp only [cond_true] at h
        split at h
        · rename_i L hop
          have heop := stepN_right hD (fun _ => rfl) hop
          simp only [wpOpsIn, hjo, wanted_of ht, hw, if_true]
          refine heop μ w a hs hG hf (orel_of hs ht hk) _ _ (fun x hx vc w1 μ1 s1 hv => ?_) rc
          obtain ⟨M, hM, hsub⟩ := collectL_mem h x hx
          split at hM
          · rename_i tr1 hp
            refine ih (j + 1) tr1 x.2 M hj' hM μ1 w1 _ s1.sim (Nat.le_trans hG s1.next) (fresh_on hf s1) (putDst_rel hp (ht.ext s1.extE) hv) Q fun y hy a' w' μ' hd hst htr => hQ y (hsub y hy) a' w' μ' (hd.trans ?_) (s1.trans hst) htr
            cases o.dst <;> rfl
          · cases hM
        · cases h
end Go.Proofs.YtpjpefcpbkmilaaDoor
