/-
  A loop over a map that looks for one entry: each order comes to the same. Over any program. Conditions: none.
-/
import Derived.Test.YtpjpefcpbkmilaaDoorSno
namespace Go.Proofs.YtpjpefcpbkmilaaDoor
variable {P : Program} {G : Nat} {nt : Nat} {N : Nat}

/-- What 'next' of an iteration over a map does. -/
theorem next_run {σ : Mem} {μ : Mu} {w : World} {b m since st cl : Nat} {seen : List Nat} {es : List (Value × Value)} (hs : Sim G μ σ w) (hG : G ≤ σ.next) (hGb : G ≤ b) (hb : σ.get b = some (.mit m since seen st)) (hm : σ.get m = some (.ents es cl)) (k1 : es.length ≤ since) (k2 : since ≤ st)
    {o : Oper} {it : Operand} {a : Act} {ρ : Operand → Value} (ho : o.op = .next it false) (hit : ρ it = .pointer (some ⟨b, 0, none⟩)) (hor : ORel μ ρ a.eval o.op.operands) :
    ((∀ i, i < es.length → i ∈ seen) ∧ (execOp a.eval o).run P w = .ok (.value (.tuple #[.bool false])) w) ∨
    ∃ i kk vv vc w', i < es.length ∧ i ∉ seen ∧ es[i]? = some (kk, vv) ∧ (execOp a.eval o).run P w = .ok (.value vc) w' ∧ Stp G σ μ w (σ.put b (.mit m since (seen ++ [i]) cl)) μ w' ∧ VRel μ (.tuple #[.bool true, kk, vv]) vc := by
  rw [ho] at hor
  have h1 := hor it (by simp [Op.operands])
  rw [hit] at h1
  obtain ⟨bi, hbm, hix⟩ := h1.ptr_inv
  obtain ⟨mbi, hmm, hin, hsh⟩ := hs.blk b _ bi hb hbm
  obtain ⟨cc, hcc, hsz, hes⟩ := hs.blk m _ mbi hm hmm
  have at_i : ∀ i (hi : i < cc.size), ∃ k v, es[i]? = some (k, v) ∧ VRel μ k cc[i].key ∧ VRel μ v cc[i].val ∧ cc[i].born = i := fun i hi => by
    have hi' : i < es.length := by rw [← hsz]; exact hi
    obtain ⟨ent, g1, g2, g3, g4⟩ := hes i es[i].1 es[i].2 (by simp [hi'])
    rw [Array.getElem?_eq_getElem hi] at g1
    cases g1
    exact ⟨es[i].1, es[i].2, by simp [hi'], g2, g3, g4⟩
  have hold : ∀ x ∈ cc.toList, x.born < since := fun x hx => by
    obtain ⟨i, hi, rfl⟩ := List.mem_iff_getElem.1 hx
    obtain ⟨_, _, _, _, _, g⟩ := at_i i (by simpa using hi)
    have : cc.toList[i] = cc[i]'(by simpa using hi) := by simp
    rw [this, g]
    have : i < cc.size := by simpa using hi
    omega
  have hrun := run_next_at (P := P) w o.type bi.blk mbi.blk since st seen.toArray cc cl hin hcc hold k2
  have hex : ∀ v w', (Instr.next (.pointer (some ⟨bi.blk, 0, none⟩)) false o.type).run P w = .ok v w' → (execOp a.eval o).run P w = .ok (.value v) w' := fun v w' hr => by
    unfold execOp
    have : a.eval it = .pointer (some ⟨bi.blk, 0, none⟩) := by rw [hix, hsh]
    simp only [ho, Sem.run_bind, this, hr, Result.andThen_ok, Sem.run_pure]
  rcases hrun with ⟨h0, hr⟩ | ⟨ent, hent, w1, hw1, hr⟩
  · refine .inl ⟨fun i hi => ?_, hex _ _ hr⟩
    have hi1 : i < cc.size := by rw [hsz]; exact hi
    obtain ⟨_, _, _, _, _, g⟩ := at_i i hi1
    refine Classical.byContradiction fun hns => ?_
    have : cc[i] ∈ leftOf cc seen.toArray := by
      unfold leftOf
      refine Array.mem_filter.2 ⟨Array.getElem_mem hi1, ?_⟩
      rw [g]
      simpa using hns
    have hpos := Array.size_pos_of_mem this
    omega
  · obtain ⟨hm1, hm2⟩ := leftOf_mem hent
    obtain ⟨i, hi, rfl⟩ := List.mem_iff_getElem.1 hm1
    have hi : i < cc.size := by simpa using hi
    have eq : cc.toList[i] = cc[i] := by simp
    rw [eq] at hm2 hr
    obtain ⟨kk, vv, g1, g2, g3, g4⟩ := at_i i hi
    rw [g4] at hm2 hr
    have hns : i ∉ seen := by simpa using hm2
    have hw1h : w1.heap = w.heap ∧ w1.os = w.os ∧ w1.tape = w.tape ∧ w1.output = w.output := by
      rcases hw1 with rfl | rfl
      · exact ⟨rfl, rfl, rfl, rfl⟩
      · exact ⟨rfl, rfl, rfl, rfl⟩
    have hblt := (Array.getElem?_eq_some_iff.1 hin).1
    have st : Stp G σ μ w (σ.put b (.mit m since (seen ++ [i]) cl)) μ (ChangeMaps.setBlock w1 bi.blk (.mapIter (some mbi.blk) since (seen.toArray.push i) cl)) := by
      refine Stp.turn hs hG hGb hb hbm ⟨mbi, hmm, ?_, hsh⟩ ?_ hw1h.2.1 hw1h.2.2.1 hw1h.2.2.2 fun B hB => ?_
      · unfold ChangeMaps.setBlock
        simp [hw1h.1, hblt]
      · unfold ChangeMaps.setBlock
        simp [hw1h.1]
      · unfold ChangeMaps.setBlock
        simp [hw1h.1, Array.getElem?_setIfInBounds_ne (Ne.symm hB)]
    refine .inr ⟨i, kk, vv, _, _, by omega, hns, g1, hex _ _ hr, st, .tuple _ _ rfl fun j x x' h1 h2 => ?_⟩
    match j with
    | 0 => simp at h1 h2; rw [← h1, ← h2]; exact .flat _ rfl
    | 1 => simp at h1 h2; rw [← h1, ← h2]; exact g2
    | 2 => simp at h1 h2; rw [← h1, ← h2]; exact g3
    | j + 3 => simp at h1
/-- Operations that look at no memory but the entry at hand. -/
def isEntry (b : Nat) (o : Oper) (ρ : Operand → Value) : Bool := match o.op with
  | .entry it => (match ρ it with
    | .pointer (some ⟨b', 0, none⟩) => Nat.beq b' b
    | _ => false)
  | _ => false
noncomputable def pureOp (G : Nat) (P : Program) (b : Nat) (ent : Option Value) (o : Oper) (ρ : Operand → Value) : Option Value :=
  cond (isEntry b o ρ) ent (match stepOp G P ⟨fun _ => none, 0⟩ o ρ with
    | some (.val v) => some v
    | _ => none)
def EntOk (G : Nat) (P : Program) (σ : Mem) (b : Nat) (ent : Option Value) : Prop := ∀ v, ent = some v → ∀ o (ρ : Operand → Value), isEntry b o ρ = true → EOp G P o ρ σ v σ
theorem pureOp_right {σ : Mem} {b : Nat} {ent : Option Value} {v : Value} {o : Oper} {ρ : Operand → Value} (he : EntOk G P σ b ent) (hρ : ∀ v, ρ (.const v) = v) (h : pureOp G P b ent o ρ = some v) : EOp G P o ρ σ v σ := by
  unfold pureOp at h
  cases hi : isEntry b o ρ with
  | true => rw [hi] at h; exact he v h o ρ hi
  | false =>
    rw [hi] at h
    simp only [cond_false] at h
    split at h
    · rename_i v' hs
      cases h
      have hv : VOp P o ρ v := stepOp_right (G := G) hρ hs
      exact hv.eop σ
    · cases h
noncomputable def pureOps (G : Nat) (P : Program) (nt : Nat) (ops : Array Oper) (b : Nat) (ent : Option Value) : List Oper → T Value → Option (T Value)
  | [], tr => some tr
  | o :: l, tr => cond (wantedT ops (tmG tr) o)
      (cond (opndOk G o) (match pureOp G P b ent o (oper2 (tmG tr)) with
        | some v => (match putDst nt tr v o.dst with
          | some tr1 => pureOps G P nt ops b ent l tr1
          | none => none)
        | none => none) none)
      (match putDst nt tr undef o.dst with
        | some tr1 => pureOps G P nt ops b ent l tr1
        | none => none)
theorem pureOps_text {ops : Array Oper} {rc : Option Nat} {σ : Mem} {b : Nat} {ent : Option Value} (he : EntOk G P σ b ent) : ∀ (l : List Oper) (j : Nat) (tr tr2 : T Value), ops.toList.drop j = l → pureOps G P nt ops b ent l tr = some tr2 →
    ∀ μ w (a : Act), Sim G μ σ w → G ≤ σ.next → (∀ b, σ.next ≤ b → b < N → μ b = none) → TRel μ nt (tmG tr) a.tmps → ∀ Q : Exit → Act → World → Prop, (∀ (a' : Act) w' μ', a'.defers = a.defers → Stp G σ μ w σ μ' w' → TRel μ' nt (tmG tr2) a'.tmps → Q .normal a' w') → wpOpsIn (FW rc) 0 P ops Q (List.range' j l.length) a w := by
  intro l
  induction l with
  | nil =>
    intro j tr tr2 hj h μ w a hs hG _ ht Q hQ
    simp only [pureOps, Option.some.injEq] at h
    subst h
    exact hQ a w μ rfl (Stp.refl hs hG) ht
  | cons o l ih =>
    intro j tr tr2 hj h μ w a hs hG hf ht Q hQ
    have hjo : ops[j]? = some o := by
      have := congrArg List.head? hj
      rw [List.head?_drop] at this
      simpa using this
    have hj' : ops.toList.drop (j + 1) = l := by
      have := congrArg List.tail hj
      simpa using this
    simp only [pureOps] at h
    rw [List.length_cons, List.range'_succ]
    cases hw : wantedT ops (tmG tr) o with
    | false =>
      rw [hw] at h
      simp only [cond_false] at h
      split at h
      · rename_i tr1 hp
        simp only [wpOpsIn, hjo, wanted_of ht, hw, Bool.false_eq_true, if_false]
        refine ⟨fun _ _ => trivial, ih (j + 1) tr1 tr2 hj' h μ w _ hs hG hf (putDst_rel hp ht (VRel.undef μ)) Q fun a' w' μ' hd hst htr => hQ a' w' μ' (hd.trans ?_) hst htr⟩
        cases o.dst <;> rfl
      · cases h
    | true =>
      rw [hw] at h
      simp only [cond_true] at h
      cases hk : opndOk G o with
      | false => rw [hk] at h; cases h
      | true =>
        rw [hk] at h
        simp only [cond_true] at h
        split at h
        · rename_i v hop
          split at h
          · rename_i tr1 hp
            have heop := pureOp_right he (fun _ => rfl) hop
            simp only [wpOpsIn, hjo, wanted_of ht, hw, if_true]
            refine heop.2 μ w a hs hG (fun b h1 h2 => absurd h1 (by omega)) (orel_of hs ht hk) _ _ (fun vc w1 μ1 s1 hv => ?_) rc
            refine ih (j + 1) tr1 tr2 hj' h μ1 w1 _ s1.sim hG (fresh_on hf s1) (putDst_rel hp (ht.ext s1.extE) hv) Q fun a' w' μ' hd hst htr => hQ a' w' μ' (hd.trans ?_) (s1.trans hst) htr
            cases o.dst <;> rfl
          · cases h
        · cases h
noncomputable def pureN (G : Nat) (P : Program) (nt : Nat) (b : Nat) (ent : Option Value) : Nat → Code → T Value → Option (Exit × T Value)
  | 0, _, _ => none
  | k + 1, c, tr => (match c with
    | .skip => some (.normal, tr)
    | .exit id => some (.exit id, tr)
    | .seq x y => (match pureN G P nt b ent k x tr with
      | some (.normal, tr1) => pureN G P nt b ent k y tr1
      | r => r)
    | .cond c x y => (match oper2 (tmG tr) c with
      | .bool t => cond t (pureN G P nt b ent k x tr) (pureN G P nt b ent k y tr)
      | _ => none)
    | .block id c => (match pureN G P nt b ent k c tr with
      | some (ex, tr1) => some (outOf id ex, tr1)
      | none => none)
    | .region _ ops draw => cond draw none (match pureOps G P nt ops b ent ops.toList tr with
      | some tr1 => some (.normal, tr1)
      | none => none)
    | _ => none)
theorem pureN_right {rd : Option Nat} {σ : Mem} {b : Nat} {ent : Option Value} {dm : List DItem} (he : EntOk G P σ b ent) : ∀ (k : Nat) (c : Code) (tr tr2 : T Value) (ex : Exit), pureN G P nt b ent k c tr = some (ex, tr2) → SCode G P rd nt c (tmG tr) dm σ ex (tmG tr2) dm σ := by
  intro k
  induction k with
  | zero => intro c tr tr2 ex h; simp only [pureN] at h; cases h
  | succ k ih =>
    intro c tr tr2 ex h
    simp only [pureN] at h
    split at h
    · cases h; exact SCode.skip
    · cases h; exact SCode.exit _
    · split at h
      · rename_i tr1 hx
        exact (ih _ _ _ _ hx).seq (ih _ _ _ _ h)
      · rename_i hne
        refine (ih _ _ _ _ h).seq_out fun he => ?_
        subst he
        exact hne _ h
    · split at h
      · rename_i t hb
        refine SCode.cond hb ?_
        cases t with
        | true => exact ih _ _ _ _ h
        | false => exact ih _ _ _ _ h
      · cases h
    · split at h
      · rename_i ex' tr1 hx
        cases h
        exact (ih _ _ _ _ hx).block
      · cases h
    · rename_i id ops draw
      cases draw with
      | true => cases h
      | false =>
        simp only [cond_false] at h
        split at h
        · rename_i tr1 hp
          cases h
          refine ⟨Nat.le_refl _, fun μ w a rc hs hG hf ht hd _ Q hQ => wpIn_region ?_⟩
          have h3 := pureOps_text (N := 0) (rc := rc) he (ops := ops) ops.toList 0 tr tr2 rfl hp μ w a hs hG (fun b _ h => absurd h (by omega)) ht Q fun a' w' μ' he hst htr => hQ a' w' μ' (by rw [he]; exact hd.ext hst.extE) hst htr
          rw [List.range_eq_range']
          simpa using h3
        · cases h
    · cases h
theorem entry_eop {σ : Mem} {b m since i cl : Nat} {seen : List Nat} {es : List (Value × Value)} {kk vv : Value} (hb : σ.get b = some (.mit m since (seen ++ [i]) cl)) (hm : σ.get m = some (.ents es cl)) (hi : es[i]? = some (kk, vv)) : EntOk G P σ b (some (.tuple #[kk, vv])) := fun v hv o ρ h => by
  cases hv
  unfold isEntry at h
  split at h
  · rename_i it ho
    split at h
    · rename_i b' hit
      have := Nat.eq_of_beq_eq_true h
      subst this
      refine ⟨Nat.le_refl _, fun μ w a hs hG hf hor K Q k rd => ?_⟩
      rw [ho] at hor
      have h1 := hor it (by simp [Op.operands])
      rw [hit] at h1
      obtain ⟨bi, hbm, hix⟩ := h1.ptr_inv
      obtain ⟨mbi, hmm, hin, hsh⟩ := hs.blk _ _ bi hb hbm
      obtain ⟨cc, hcc, hsz, hes⟩ := hs.blk m _ mbi hm hmm
      obtain ⟨ent, g1, g2, g3, g4⟩ := hes i kk vv hi
      have hin' : w.heap[bi.blk]? = some (.mapIter (some mbi.blk) since ((seen.toArray).push ent.born) cl) := by
        rw [hin, g4]
        simp
      have hnd : (cc.toList.map (·.born)).Nodup := by
        have : cc.toList.map (·.born) = List.range cc.size := by
          apply List.ext_getElem?
          intro j
          rw [List.getElem?_map]
          rcases Nat.lt_or_ge j cc.size with hj | hj
          · have hj' : j < es.length := by rw [← hsz]; exact hj
            obtain ⟨ej, q1, _, _, q4⟩ := hes j es[j].1 es[j].2 (by simp [hj'])
            rw [Array.getElem?_toList, q1, List.getElem?_range hj]
            simp [q4]
          · rw [List.getElem?_eq_none (by simpa using hj), List.getElem?_eq_none (by simpa using hj)]
            rfl
        rw [this]
        exact List.nodup_range
      have hr := run_entry_at (P := P) w bi.blk mbi.blk since seen.toArray cc cl ent hin' hcc (Array.mem_toList_iff.2 (Array.mem_of_getElem? g1)) hnd
      have hex : (execOp a.eval o).run P w = .ok (.value (.tuple #[ent.key, ent.val])) w := by
        unfold execOp
        have : a.eval it = .pointer (some ⟨bi.blk, 0, none⟩) := by rw [hix, hsh]
        simp only [ho, Sem.run_bind, this, hr, Result.andThen_ok, Sem.run_pure]
      refine wp_of_value hex (k _ w μ (Stp.refl hs hG) (.tuple _ _ rfl fun j x x' h1 h2 => ?_))
      match j with
      | 0 => simp at h1 h2; rw [← h1, ← h2]; exact g2
      | 1 => simp at h1 h2; rw [← h1, ← h2]; exact g3
      | j + 2 => simp at h1
    · cases h
  · cases h
theorem ent_none {σ : Mem} {b : Nat} : EntOk G P σ b none := fun v h => by cases h
/-- A round's rest, behind what 'next' has answered. -/
noncomputable def stepM (G : Nat) (P : Program) (nt : Nat) (ops : Array Oper) (d : Option Nat) (l : List Oper) (rest : Code) (b : Nat) (s : T Value) (v : Value) (ent : Option Value) : Option (Exit × T Value) :=
  match putDst nt s v d with
  | some s1 => (match pureOps G P nt ops b ent l s1 with
    | some s2 => pureN G P nt b ent 60 rest s2
    | none => none)
  | none => none
section
variable {id : Nat} {ops : Array Oper} {o0 : Oper} {l : List Oper} {rest : Code} {rd : Option Nat} {it : Operand} {b m since st cl : Nat} {es : List (Value × Value)} {dm : List DItem}
theorem stepM_wp {rc : Option Nat} (hops : ops.toList = o0 :: l) {σ : Mem} {s s' : T Value} {v vc : Value} {ent : Option Value} {ex : Exit} (he : EntOk G P σ b ent) (h : stepM G P nt ops o0.dst l rest b s v ent = some (ex, s')) {μ : Mu} {w : World} {a : Act} (hs : Sim G μ σ w) (hG : G ≤ σ.next) (ht : TRel μ nt (tmG s) a.tmps) (hv : VRel μ v vc) (hd : DRel μ dm a.defers) (hrd : RdRel μ rd rc) {Q : Exit → Act → World → Prop}
    (hQ : ∀ (a' : Act) w' μ', DRel μ' dm a'.defers → Stp G σ μ w σ μ' w' → TRel μ' nt (tmG s') a'.tmps → Q ex a' w') : wpOpsIn (FW rc) 0 P ops (Exit.then (rest.wpIn (FW rc) 0 P Q) Q) (List.range' 1 l.length) (a.put o0.dst vc) w := by
  unfold stepM at h
  split at h
  · rename_i s1 hp
    split at h
    · rename_i s2 hp2
      have hdrop : ops.toList.drop 1 = l := by rw [hops]; rfl
      refine pureOps_text (N := 0) he l 1 s1 s2 hdrop hp2 μ w _ hs hG (fun b _ h => absurd h (by omega)) (putDst_rel hp ht hv) _ fun a1 w1 μ1 hd1 hst htr => ?_
      have hd1' : DRel μ1 dm a1.defers := by
        rw [hd1]
        cases o0.dst <;> exact hd.ext hst.extE
      exact (pureN_right (rd := rd) (dm := dm) he 60 rest s2 s' ex h).2 μ1 w1 a1 rc hst.sim hG (fun b h1 h2 => absurd h1 (by omega)) htr hd1' (hrd.ext hst.extE) Q fun a2 w2 μ2 hd2 hst2 htr2 => hQ a2 w2 μ2 hd2 (hst.trans hst2) htr2
    · cases h
  · cases h
theorem round_wp {rc : Option Nat} (hops : ops.toList = o0 :: l) (ho : o0.op = .next it false) (hg : o0.guard = none) (hk : opndOk G o0 = true) {σ : Mem} {s : T Value} {seen : List Nat} (hit : oper2 (tmG s) it = .pointer (some ⟨b, 0, none⟩)) (hGb : G ≤ b) (hb : σ.get b = some (.mit m since seen st)) (hm : σ.get m = some (.ents es cl)) (k1 : es.length ≤ since) (k2 : since ≤ st)
    {μ : Mu} {w : World} {a : Act} (hs : Sim G μ σ w) (hG : G ≤ σ.next) (ht : TRel μ nt (tmG s) a.tmps) (hd : DRel μ dm a.defers) (hrd : RdRel μ rd rc) {Q : Exit → Act → World → Prop}
    (hover : (∀ i, i < es.length → i ∈ seen) → ∃ ex s', stepM G P nt ops o0.dst l rest b s (.tuple #[.bool false]) none = some (ex, s') ∧ ∀ (a' : Act) w' μ', DRel μ' dm a'.defers → Stp G σ μ w σ μ' w' → TRel μ' nt (tmG s') a'.tmps → Q ex a' w')
    (hstep : ∀ i kk vv, i < es.length → i ∉ seen → es[i]? = some (kk, vv) → ∃ s', stepM G P nt ops o0.dst l rest b s (.tuple #[.bool true, kk, vv]) (some (.tuple #[kk, vv])) = some (.normal, s') ∧ ∀ (a' : Act) w' μ', DRel μ' dm a'.defers → Stp G σ μ w (σ.put b (.mit m since (seen ++ [i]) cl)) μ' w' → TRel μ' nt (tmG s') a'.tmps → Q .normal a' w') :
    (Code.seq (.region id ops false) rest).wpIn (FW rc) 0 P Q a w := by
  refine wpIn_seq (wpIn_region ?_)
  have hsz : ops.size = l.length + 1 := by rw [← Array.length_toList, hops]; simp
  have ho0 : ops[0]? = some o0 := by rw [← Array.getElem?_toList, hops]; rfl
  have hw : Region.wanted o0 (yielded ops a.tmps) = true := by unfold Region.wanted; rw [hg]
  rw [hsz, List.range_eq_range', List.range'_succ]
  simp only [wpOpsIn, ho0, hw, if_true]
  have hor := orel_of hs ht hk
  have hmb : m ≠ b := fun e => by rw [e, hb] at hm; cases hm
  rcases next_run hs hG hGb hb hm k1 k2 ho hit hor with ⟨hall, hr⟩ | ⟨i, kk, vv, vc, w1, hi, hns, hkv, hr, hst, hv⟩
  · obtain ⟨ex, s', h1, h2⟩ := hover hall
    exact wp_of_value hr (stepM_wp hops ent_none h1 hs hG ht (closedV_rel μ 3 _ rfl) hd hrd h2)
  · obtain ⟨s', h1, h2⟩ := hstep i kk vv hi hns hkv
    have hg1 : (σ.put b (.mit m since (seen ++ [i]) cl)).get b = some (.mit m since (seen ++ [i]) cl) := by rw [Mem.put_get _ (Mem.lt hb), if_pos rfl]
    have hg2 : (σ.put b (.mit m since (seen ++ [i]) cl)).get m = some (.ents es cl) := by rw [Mem.put_get _ (Mem.lt hb), if_neg hmb, hm]
    exact wp_of_value hr (stepM_wp hops (entry_eop hg1 hg2 hkv) h1 hst.sim hG (ht.ext hst.extE) hv (hd.ext hst.extE) (hrd.ext hst.extE) fun a' w' μ' hd' hst2 htr => h2 a' w' μ' hd' (hst.trans hst2) htr)
theorem nodup_len : ∀ (n : Nat) (l : List Nat), l.Nodup → (∀ j ∈ l, j < n) → l.length ≤ n
  | 0, l, _, h => by
    cases l with
    | nil => simp
    | cons x l => exact absurd (h x List.mem_cons_self) (by omega)
  | n + 1, l, hn, h => by
    by_cases hm : n ∈ l
    · have h1 := nodup_len n (l.erase n) (hn.erase n) fun j hj => by
        rw [hn.mem_erase_iff] at hj
        have := h j hj.2
        omega
      rw [List.length_erase_of_mem hm] at h1
      omega
    · have := nodup_len n l hn fun j hj => by
        have := h j hj
        have : j ≠ n := fun e => hm (e ▸ hj)
        omega
      omega
/-- All rounds. -/
theorem mapRounds (hops : ops.toList = o0 :: l) (ho : o0.op = .next it false) (hg : o0.guard = none) (hk : opndOk G o0 = true) (hGb : G ≤ b) (k1 : es.length ≤ since) (k3 : since ≤ cl) {e : EM} {L : List Leaf} (R : List Nat → T Value → Prop)
    (hm : e.mem.get m = some (.ents es cl)) (hmb : m ≠ b)
    (hptr : ∀ seen s, R seen s → oper2 (tmG s) it = .pointer (some ⟨b, 0, none⟩))
    (hover : ∀ seen s, R seen s → (∀ i, i < es.length → i ∈ seen) → ∃ ex s', stepM G P nt ops o0.dst l rest b s (.tuple #[.bool false]) none = some (ex, s') ∧ ex ≠ .normal ∧ (ex, s', dm, e.kill b) ∈ L)
    (hstep : ∀ seen s i kk vv, R seen s → i < es.length → i ∉ seen → es[i]? = some (kk, vv) → ∃ s', stepM G P nt ops o0.dst l rest b s (.tuple #[.bool true, kk, vv]) (some (.tuple #[kk, vv])) = some (.normal, s') ∧ R (seen ++ [i]) s') :
    ∀ (r : Nat) (seen : List Nat) (s : T Value) (σ : Mem) (st : Nat), seen.length + r = es.length → seen.Nodup → (∀ j ∈ seen, j < es.length) → R seen s → σ.next = e.mem.next → σ.get b = some (.mit m since seen st) → since ≤ st → (∀ c, c ≠ b → σ.get c = e.mem.get c) →
      NRounds G P rd nt (r + 1) (.seq (.region id ops false) rest) (tmG s) dm σ N L := by
  intro r
  induction r with
  | zero =>
    intro seen s σ st hlen hnd hlt hR hnx hb k2 hoth μ w a rc hs hG hf ht hd hrd Q hQ
    refine round_wp hops ho hg hk (hptr _ _ hR) hGb hb (by rw [hoth m hmb, hm]) k1 k2 hs hG ht hd hrd (fun hall => ?_) fun i kk vv hi hns _ => ?_
    · obtain ⟨ex, s', h1, h2, h3⟩ := hover _ _ hR hall
      refine ⟨ex, s', h1, fun a' w' μ' hd' hst htr => ?_⟩
      have hsub : Sub (e.kill b).mem σ := ⟨hnx.symm, fun c x hx => by
        rw [EM.mem_kill, Mem.kill_get] at hx
        split at hx
        · cases hx
        · rename_i hc; rw [hoth c hc]; exact hx⟩
      have := hQ _ h3 a' w' μ' hd' (hst.forget hsub) htr
      cases ex <;> first | exact absurd rfl h2 | exact this
    · have := nodup_len es.length (i :: seen) (List.nodup_cons.2 ⟨hns, hnd⟩) (fun j hj => by
        rcases List.mem_cons.1 hj with rfl | hj
        · exact hi
        · exact hlt j hj)
      rw [List.length_cons] at this
      omega
  | succ r ih =>
    intro seen s σ st hlen hnd hlt hR hnx hb k2 hoth μ w a rc hs hG hf ht hd hrd Q hQ
    refine round_wp hops ho hg hk (hptr _ _ hR) hGb hb (by rw [hoth m hmb, hm]) k1 k2 hs hG ht hd hrd (fun hall => ?_) fun i kk vv hi hns hkv => ?_
    · obtain ⟨ex, s', h1, h2, h3⟩ := hover _ _ hR hall
      refine ⟨ex, s', h1, fun a' w' μ' hd' hst htr => ?_⟩
      have hsub : Sub (e.kill b).mem σ := ⟨hnx.symm, fun c x hx => by
        rw [EM.mem_kill, Mem.kill_get] at hx
        split at hx
        · cases hx
        · rename_i hc; rw [hoth c hc]; exact hx⟩
      have := hQ _ h3 a' w' μ' hd' (hst.forget hsub) htr
      cases ex <;> first | exact absurd rfl h2 | exact this
    · obtain ⟨s', h1, h2⟩ := hstep _ _ i kk vv hR hi hns hkv
      refine ⟨s', h1, fun a' w' μ' hd' hst htr => ?_⟩
      refine ih (seen ++ [i]) s' (σ.put b (.mit m since (seen ++ [i]) cl)) cl (by simp; omega) ?_ ?_ h2 hnx (by rw [Mem.put_get _ (Mem.lt hb), if_pos rfl]) k3 (fun c hc => by rw [Mem.put_get _ (Mem.lt hb), if_neg hc, hoth c hc]) μ' w' a' rc hst.sim hG (fresh_on hf hst) htr hd' (hrd.ext hst.extE) Q fun x hx a2 w2 μ2 hd2 hst2 htr2 => hQ x hx a2 w2 μ2 hd2 (hst.trans hst2) htr2
      · rw [List.nodup_append]
        exact ⟨hnd, by simp, fun x hx y hy => by simp at hy; rw [hy]; exact fun e => hns (e ▸ hx)⟩
      · intro j hj
        rcases List.mem_append.1 hj with hj | hj
        · exact hlt j hj
        · simp at hj; rw [hj]; exact hi
end
/-- Trees alike. -/
def eqTO : Option Value → Option Value → Bool
  | none, none => true
  | some a, some b => eqV 3 a b
  | _, _ => false
theorem eqTO_eq : ∀ {a b : Option Value}, eqTO a b = true → a = b
  | none, none, _ => rfl
  | some a, some b, h => by rw [eqV_eq 3 a b h]
  | none, some _, h => by cases h
  | some _, none, h => by cases h
def eqT : T Value → T Value → Bool
  | .nil, .nil => true
  | .node l v r, .node l' v' r' => cond (eqTO v v') (cond (eqT l l') (eqT r r') false) false
  | _, _ => false
theorem eqT_eq : ∀ {a b : T Value}, eqT a b = true → a = b
  | .nil, .nil, _ => rfl
  | .node l v r, .node l' v' r', h => by
    simp only [eqT] at h
    cases h1 : eqTO v v' with
    | false => rw [h1] at h; cases h
    | true =>
      rw [h1] at h
      simp only [cond_true] at h
      cases h2 : eqT l l' with
      | false => rw [h2] at h; cases h
      | true =>
        rw [h2] at h
        rw [eqTO_eq h1, eqT_eq h2, eqT_eq h]
  | .nil, .node .., h => by cases h
  | .node .., .nil, h => by cases h
def nrmT : Option (Exit × T Value) → Option (T Value)
  | some (.normal, s) => some s
  | _ => none
theorem nrmT_some {x : Option (Exit × T Value)} {s : T Value} (h : nrmT x = some s) : x = some (.normal, s) := by
  unfold nrmT at h
  split at h
  · cases h; rfl
  · cases h
abbrev StepF := T Value → Value → Option Value → Option (Exit × T Value)
def stO (sm : StepF) (es : List (Value × Value)) (i : Nat) : Option (T Value) → Option (T Value)
  | some s => (match es[i]? with
    | some (k, v) => nrmT (sm s (.tuple #[.bool true, k, v]) (some (.tuple #[k, v])))
    | none => none)
  | none => none
theorem stO_some {sm : StepF} {es : List (Value × Value)} {i : Nat} {s s' : T Value} {k v : Value} (hk : es[i]? = some (k, v)) (h : stO sm es i (some s) = some s') : sm s (.tuple #[.bool true, k, v]) (some (.tuple #[k, v])) = some (.normal, s') := by
  unfold stO at h
  simp only [hk] at h
  exact nrmT_some h
def sameO : Option (T Value) → Option (T Value) → Bool
  | some s, some t => eqT s t
  | _, _ => false
theorem sameO_some {x y : Option (T Value)} (h : sameO x y = true) : ∃ s, x = some s ∧ y = some s := by
  cases x with
  | none => cases h
  | some s =>
    cases y with
    | none => cases h
    | some t => exact ⟨s, rfl, by rw [eqT_eq h]⟩
noncomputable def ptrOk (b : Nat) (it : Operand) : Option (T Value) → Bool
  | some s => (match oper2 (tmG s) it with
    | .pointer (some ⟨b', 0, none⟩) => Nat.beq b' b
    | _ => false)
  | none => false
theorem ptrOk_some {b : Nat} {it : Operand} {x : Option (T Value)} (h : ptrOk b it x = true) : ∃ s, x = some s ∧ oper2 (tmG s) it = .pointer (some ⟨b, 0, none⟩) := by
  cases x with
  | none => cases h
  | some s =>
    refine ⟨s, rfl, ?_⟩
    simp only [ptrOk] at h
    split at h
    · rename_i b' hb; rw [hb, Nat.eq_of_beq_eq_true h]
    · cases h
def rng (n : Nat) (p : Nat → Bool) : Bool := (List.range n).all p
theorem rng_at {n : Nat} {p : Nat → Bool} (h : rng n p = true) : ∀ i, i < n → p i = true := fun i hi => List.all_eq_true.1 h i (List.mem_range.2 hi)
def apart2 (i j : Nat) (x : Bool) : Bool := cond (Nat.beq i j) true x
theorem apart2_ne {i j : Nat} {x : Bool} (h : apart2 i j x = true) (hn : i ≠ j) : x = true := by
  unfold apart2 at h
  cases hb : Nat.beq i j with
  | false => rw [hb] at h; exact h
  | true => exact absurd (Nat.eq_of_beq_eq_true hb) hn
noncomputable def stA (sm : StepF) (es : List (Value × Value)) (s0 : T Value) (i : Nat) : Option (T Value) := stO sm es i (some s0)
noncomputable def stB (sm : StepF) (es : List (Value × Value)) (s0 : T Value) (i0 j : Nat) : Option (T Value) := cond (Nat.beq j i0) (stA sm es s0 i0) (stO sm es j (stA sm es s0 i0))
noncomputable def mapChk (sm : StepF) (es : List (Value × Value)) (s0 : T Value) (b : Nat) (it : Operand) (i0 n : Nat) : Bool :=
  cond (Nat.blt i0 n && ptrOk b it (some s0)) (cond (rng n fun j => ptrOk b it (stA sm es s0 j) && ptrOk b it (stB sm es s0 i0 j))
    (cond (rng n fun j => apart2 j i0 (rng n fun i => apart2 i i0 (apart2 i j (sameO (stO sm es i (stA sm es s0 j)) (stA sm es s0 i)))))
      (cond (rng n fun j => apart2 j i0 (sameO (stO sm es i0 (stA sm es s0 j)) (stB sm es s0 i0 i0)))
        (rng n fun j => rng n fun i => apart2 i i0 (apart2 i j (sameO (stO sm es i (stB sm es s0 i0 j)) (stB sm es s0 i0 i)))) false) false) false) false
noncomputable def overL2 (sm : StepF) (es : List (Value × Value)) (s0 : T Value) (i0 : Nat) (dm : List DItem) (ek : EM) (j : Nat) : Option (List Leaf) :=
  match stB sm es s0 i0 j with
  | some s => (match sm s (.tuple #[.bool false]) none with
    | some (ex, s') => (match ex with
      | .normal => none
      | ex => some [(ex, s', dm, ek)])
    | none => none)
  | none => none
noncomputable def mapLoop (G : Nat) (P : Program) (nt i0 : Nat) (c : Code) (tr : T Value) (dm : List DItem) (e : EM) : Option (List Leaf) :=
  match c with
  | .seq (.region _ ops false) rest => (match ops.toList with
    | o0 :: l => (match o0.op, o0.guard with
      | .next it false, none => (match oper2 (tmG tr) it with
        | .pointer (some ⟨b, 0, none⟩) => (match e.mem.get b with
          | some (.mit m since [] st) => (match e.mem.get m with
            | some (.ents es cl) => cond (Nat.ble G b && Nat.ble es.length since && Nat.ble since st && Nat.ble since cl && opndOk G o0 && mapChk (stepM G P nt ops o0.dst l rest b) es tr b it i0 es.length) (collectL (overL2 (stepM G P nt ops o0.dst l rest b) es tr i0 dm (e.kill b)) (List.range es.length)) none
            | _ => none)
          | _ => none)
        | _ => none)
      | _, _ => none)
    | [] => none)
  | _ => none
theorem mapLoop_right {rd : Option Nat} {i0 : Nat} {c : Code} {tr : T Value} {dm : List DItem} {e : EM} {L : List Leaf} (h : mapLoop G P nt i0 c tr dm e = some L) : NCode G P rd nt (.loop c) (tmG tr) dm e.mem N L := by
  unfold mapLoop at h
  split at h
  · rename_i id ops rest
    split at h
    · rename_i o0 l hops
      split at h
      · rename_i it ho hg
        split at h
        · rename_i b hit
          split at h
          · rename_i m since st hb
            split at h
            · rename_i es cl hm
              cases hk : (Nat.ble G b && Nat.ble es.length since && Nat.ble since st && Nat.ble since cl && opndOk G o0 && mapChk (stepM G P nt ops o0.dst l rest b) es tr b it i0 es.length) with
              | false => rw [hk] at h; cases h
              | true =>
                rw [hk] at h
                simp only [cond_true] at h
                simp only [Bool.and_eq_true] at hk
                obtain ⟨⟨⟨⟨⟨k1, k2⟩, k3⟩, k4⟩, k5⟩, k6⟩ := hk
                have hmb : m ≠ b := fun e' => by rw [e', hb] at hm; cases hm
                generalize hsm : stepM G P nt ops o0.dst l rest b = sm at h k6
                unfold mapChk at k6
                cases q1 : (Nat.blt i0 es.length && ptrOk b it (some tr)) with
                | false => rw [q1] at k6; cases k6
                | true =>
                rw [q1] at k6
                simp only [cond_true] at k6
                cases q2 : (rng es.length fun j => ptrOk b it (stA sm es tr j) && ptrOk b it (stB sm es tr i0 j)) with
                | false => rw [q2] at k6; cases k6
                | true =>
                rw [q2] at k6
                simp only [cond_true] at k6
                cases q3 : (rng es.length fun j => apart2 j i0 (rng es.length fun i => apart2 i i0 (apart2 i j (sameO (stO sm es i (stA sm es tr j)) (stA sm es tr i))))) with
                | false => rw [q3] at k6; cases k6
                | true =>
                rw [q3] at k6
                simp only [cond_true] at k6
                cases q4 : (rng es.length fun j => apart2 j i0 (sameO (stO sm es i0 (stA sm es tr j)) (stB sm es tr i0 i0))) with
                | false => rw [q4] at k6; cases k6
                | true =>
                rw [q4] at k6
                simp only [cond_true] at k6
                simp only [Bool.and_eq_true] at q1
                have hi0 : i0 < es.length := by simpa [Nat.blt_eq] using q1.1
                have pA : ∀ j, j < es.length → ∃ s, stA sm es tr j = some s ∧ oper2 (tmG s) it = .pointer (some ⟨b, 0, none⟩) := fun j hj => by
                  have := rng_at q2 j hj
                  simp only [Bool.and_eq_true] at this
                  exact ptrOk_some this.1
                have pB : ∀ j, j < es.length → ∃ s, stB sm es tr i0 j = some s ∧ oper2 (tmG s) it = .pointer (some ⟨b, 0, none⟩) := fun j hj => by
                  have := rng_at q2 j hj
                  simp only [Bool.and_eq_true] at this
                  exact ptrOk_some this.2
                have hB0 : stB sm es tr i0 i0 = stA sm es tr i0 := by unfold stB; rw [Nat.beq_refl]; rfl
                have lastmem : ∀ (seen : List Nat) (j : Nat), seen.getLast? = some j → j ∈ seen := fun seen j h => List.mem_of_getLast? h
                refine NRounds.loop (n := es.length + 1) (mapRounds (it := it) (b := b) (m := m) (since := since) (cl := cl) hops ho hg k5 (by simpa using k1) (by simpa using k2) (by simpa using k4) (fun seen s => (seen = [] ∧ s = tr) ∨ (∃ j, seen.getLast? = some j ∧ j < es.length ∧ j ≠ i0 ∧ i0 ∉ seen ∧ stA sm es tr j = some s) ∨ (∃ j, seen.getLast? = some j ∧ j < es.length ∧ i0 ∈ seen ∧ stB sm es tr i0 j = some s)) hm hmb ?_ ?_ ?_ es.length [] tr e.mem st (by simp) List.nodup_nil (fun j hj => by cases hj) (.inl ⟨rfl, rfl⟩) rfl hb (by simpa using k3) fun _ _ => rfl)
                · rintro seen s (⟨_, rfl⟩ | ⟨j, _, hj, _, _, hs⟩ | ⟨j, _, hj, _, hs⟩)
                  · exact hit
                  · obtain ⟨s', h1, h2⟩ := pA j hj
                    rw [hs] at h1; cases h1; exact h2
                  · obtain ⟨s', h1, h2⟩ := pB j hj
                    rw [hs] at h1; cases h1; exact h2
                · rintro seen s hR hall
                  have h0 := hall i0 hi0
                  rcases hR with ⟨rfl, _⟩ | ⟨j, _, _, _, hn, _⟩ | ⟨j, _, hj, _, hs⟩
                  · cases h0
                  · exact absurd h0 hn
                  · obtain ⟨a, h1, h2⟩ := collectL_mem h j (List.mem_range.2 hj)
                    unfold overL2 at h1
                    rw [hs] at h1
                    simp only at h1
                    split at h1
                    · rename_i ex s' hx
                      split at h1
                      · cases h1
                      · rename_i hne
                        cases h1
                        rw [hsm]
                        exact ⟨_, s', hx, fun e' => hne e', h2 _ (List.mem_singleton.2 rfl)⟩
                    · cases h1
                · rintro seen s i kk vv hR hi hns hkv
                  rw [hsm]
                  have glast : (seen ++ [i]).getLast? = some i := by simp
                  rcases hR with ⟨rfl, rfl⟩ | ⟨j, hj1, hj, hj0, hn, hs⟩ | ⟨j, hj1, hj, hin, hs⟩
                  · obtain ⟨s', h1, _⟩ := pA i hi
                    refine ⟨s', stO_some hkv h1, ?_⟩
                    by_cases hii : i = i0
                    · subst hii
                      exact .inr (.inr ⟨i, glast, hi, by simp, by rw [hB0]; exact h1⟩)
                    · exact .inr (.inl ⟨i, glast, hi, hii, by simp; exact fun e' => hii e'.symm, h1⟩)
                  · have hij : i ≠ j := fun e' => hns (e' ▸ lastmem _ _ hj1)
                    by_cases hii : i = i0
                    · subst hii
                      obtain ⟨s', h1, h2⟩ := sameO_some (apart2_ne (rng_at q4 j hj) hj0)
                      rw [hs] at h1
                      exact ⟨s', stO_some hkv h1, .inr (.inr ⟨i, glast, hi, by simp, h2⟩)⟩
                    · obtain ⟨s', h1, h2⟩ := sameO_some (apart2_ne (apart2_ne (rng_at (apart2_ne (rng_at q3 j hj) hj0) i hi) hii) hij)
                      rw [hs] at h1
                      exact ⟨s', stO_some hkv h1, .inr (.inl ⟨i, glast, hi, hii, by simp; exact ⟨hn, fun e' => hii e'.symm⟩, h2⟩)⟩
                  · have hij : i ≠ j := fun e' => hns (e' ▸ lastmem _ _ hj1)
                    have hii : i ≠ i0 := fun e' => hns (e' ▸ hin)
                    obtain ⟨s', h1, h2⟩ := sameO_some (apart2_ne (apart2_ne (rng_at (rng_at k6 j hj) i hi) hii) hij)
                    rw [hs] at h1
                    exact ⟨s', stO_some hkv h1, .inr (.inr ⟨i, glast, hi, by simp [hin], h2⟩)⟩
            · cases h
          · cases h
        · cases h
      · cases h
    · cases h
  · cases h
end Go.Proofs.YtpjpefcpbkmilaaDoor
