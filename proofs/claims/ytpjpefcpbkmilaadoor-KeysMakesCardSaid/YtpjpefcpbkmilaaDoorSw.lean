/-
  A walk in the second memory: what must be shown so that code, a region, a call come to an end that fits. Over any program. Conditions: none.
-/
import Derived.Test.YtpjpefcpbkmilaaDoorSv
namespace Go.Proofs.YtpjpefcpbkmilaaDoor
variable {P : Program} {G : Nat} {nt : Nat} {rd : Option Nat} {ops : Array Oper} {l : List Oper} {ta : Nat → Value} {σ : Mem} {dm : List Nat} {rs : List (Rec × Mem)}

/-- The rest of a region comes to an end that fits. -/
def RW (G : Nat) (P : Program) (nt : Nat) (ops : Array Oper) (l : List Oper) (ta : Nat → Value) (σ : Mem) (rs : List (Rec × Mem)) (K : List (Rec × Mem) → (Nat → Value) → Mem → Prop) : Prop :=
  ∃ rs' ta2 σ2, RegR G P nt ops l ta σ rs' ta2 σ2 ∧ K (rs.reverse ++ rs') ta2 σ2
/-- Code comes to an end that fits. -/
def W (G : Nat) (P : Program) (rd : Option Nat) (nt : Nat) (c : Code) (ta : Nat → Value) (dm : List Nat) (σ : Mem) (Q : Exit → (Nat → Value) → List Nat → Mem → Prop) : Prop :=
  ∃ ex ta' dm' σ', SCode G P rd nt c ta dm σ ex ta' dm' σ' ∧ Q ex ta' dm' σ'
/-- A call comes to an end that fits. -/
def WC (G : Nat) (P : Program) (f : FuncId) (args : Array Value) (σ : Mem) (R : Value → Mem → Prop) : Prop := ∃ v σ', SCall G P f args σ v σ' ∧ R v σ'
theorem WC.mono {f : FuncId} {args : Array Value} {R R' : Value → Mem → Prop} (h : WC G P f args σ R) (k : ∀ v σ', R v σ' → R' v σ') : WC G P f args σ R' := by
  obtain ⟨v, σ', h1, h2⟩ := h
  exact ⟨v, σ', h1, k v σ' h2⟩

section
variable {K : List (Rec × Mem) → (Nat → Value) → Mem → Prop} {o : Oper}
theorem RW.nil (h : K rs.reverse ta σ) : RW G P nt ops [] ta σ rs K := ⟨[], ta, σ, .nil ta σ, by simpa using h⟩
theorem RW.op {r : Rec} {σ1 : Mem} (hw : wantedT ops ta o = true) (hk : opndOk G o = true) (hr : r.Right G P o (oper2 ta) σ σ1) (hd : dstOk nt o.dst = true) (h : RW G P nt ops l (putO ta o.dst (r.value σ)) σ1 ((r, σ) :: rs) K) : RW G P nt ops (o :: l) ta σ rs K := by
  obtain ⟨rs', ta2, σ2, h1, h2⟩ := h
  exact ⟨(r, σ) :: rs', ta2, σ2, .op hw hk hr hd h1, by simpa using h2⟩
theorem RW.skip (hw : wantedT ops ta o = false) (hd : dstOk nt o.dst = true) (h : RW G P nt ops l (putO ta o.dst undef) σ ((.skip, σ) :: rs) K) : RW G P nt ops (o :: l) ta σ rs K := by
  obtain ⟨rs', ta2, σ2, h1, h2⟩ := h
  exact ⟨(.skip, σ) :: rs', ta2, σ2, .skip hw hd h1, by simpa using h2⟩
/-- An operation whose value is reckoned. -/
theorem RW.val {v : Value} (hw : wantedT ops ta o = true) (hk : opndOk G o = true) (hs : stepOp G P σ o (oper2 ta) = some (.val v)) (hd : dstOk nt o.dst = true) (h : RW G P nt ops l (putO ta o.dst v) σ ((.val v, σ) :: rs) K) : RW G P nt ops (o :: l) ta σ rs K :=
  RW.op (r := .val v) hw hk ⟨stepOp_right (G := G) (fun _ => rfl) hs, rfl⟩ hd h
/-- The same, and the value is said otherwise. -/
theorem RW.valE {v v' : Value} (hw : wantedT ops ta o = true) (hk : opndOk G o = true) (hs : stepOp G P σ o (oper2 ta) = some (.val v)) (he : v = v') (hd : dstOk nt o.dst = true) (h : RW G P nt ops l (putO ta o.dst v') σ ((.val v', σ) :: rs) K) : RW G P nt ops (o :: l) ta σ rs K := by
  subst he
  exact RW.val hw hk hs hd h
theorem RW.vop {v : Value} (hw : wantedT ops ta o = true) (hk : opndOk G o = true) (hs : VOp P o (oper2 ta) v) (hd : dstOk nt o.dst = true) (h : RW G P nt ops l (putO ta o.dst v) σ ((.val v, σ) :: rs) K) : RW G P nt ops (o :: l) ta σ rs K :=
  RW.op (r := .val v) hw hk ⟨hs, rfl⟩ hd h
theorem upd_same {ta : Nat → Value} {d : Nat} {v : Value} (h : ta d = v) : upd ta d v = ta := by
  funext t
  unfold upd
  by_cases ht : t = d
  · rw [if_pos ht, ht, h]
  · rw [if_neg ht]
/-- An operation under a test that is open: both ways. -/
theorem RW.both {d : Nat} {b : Bool} (g : Nat) (want : Bool) (_ : o.guard = some (g, want)) (_ : (ops[g]?).bind (·.dst) = some d) (hb : ta d = .bool b) (h1 : b = true → RW G P nt ops (o :: l) (upd ta d (.bool true)) σ rs K) (h0 : b = false → RW G P nt ops (o :: l) (upd ta d (.bool false)) σ rs K) : RW G P nt ops (o :: l) ta σ rs K := by
  cases b with
  | true => have := h1 rfl; rwa [upd_same hb] at this
  | false => have := h0 rfl; rwa [upd_same hb] at this
/-- A call. -/
theorem RW.call {c : Call} {x : Operand} {f : FuncId} {fa ca : Array Value} (hw : wantedT ops ta o = true) (hk : opndOk G o = true) (ho : o.op = .call c) (hc : c.callee = .value x) (hx : oper2 ta x = .func (.func f) fa ca) (hp : plainFn P f = true) (hd : dstOk nt o.dst = true)
    (h : WC G P f (List.toArray (fa.toList ++ c.args.toList.map (oper2 ta) ++ ca.toList)) σ fun v σ1 => RW G P nt ops l (putO ta o.dst v) σ1 ((.eff v, σ) :: rs) K) : RW G P nt ops (o :: l) ta σ rs K := by
  obtain ⟨v, σ1, h1, h2⟩ := h
  have e : List.toArray (fa.toList ++ c.args.toList.map (oper2 ta) ++ ca.toList) = fa ++ c.args.map (oper2 ta) ++ ca := by
    apply Array.ext'
    simp
  rw [e] at h1
  exact RW.op (r := .eff v) hw hk (eop_call ho hc hx hp h1) hd h2
end
section
variable {Q : Exit → (Nat → Value) → List Nat → Mem → Prop} {x y c : Code}
def seqQ (G : Nat) (P : Program) (rd : Option Nat) (nt : Nat) (y : Code) (Q : Exit → (Nat → Value) → List Nat → Mem → Prop) : Exit → (Nat → Value) → List Nat → Mem → Prop
  | .normal, ta, dm, σ => W G P rd nt y ta dm σ Q
  | ex, ta, dm, σ => Q ex ta dm σ
theorem W.region {id : Nat} (h : RW G P nt ops ops.toList ta σ [] fun _ ta' σ' => Q .normal ta' dm σ') : W G P rd nt (.region id ops false) ta dm σ Q := by
  obtain ⟨rs', ta2, σ2, h1, h2⟩ := h
  exact ⟨.normal, ta2, dm, σ2, h1.plain, h2⟩
theorem W.drawn {id : Nat} (hm : P.follows .mixedOrders = true) (hc : chkText G nt ops (masks ops.toList []) = true) (hG : G ≤ σ.next) (h : RW G P nt ops ops.toList ta σ [] fun rs ta' σ' => (chkEff (masks ops.toList []) (effR rs 0) ops.size = true ∧ DynP (masks ops.toList []) (effR rs 0) ops.size (stagesR rs 0 ops.size σ') rs 0) ∧ Q .normal ta' dm σ') : W G P rd nt (.region id ops true) ta dm σ Q := by
  obtain ⟨rs', ta2, σ2, h1, ⟨h2, h3⟩, h4⟩ := h
  exact ⟨.normal, ta2, dm, σ2, h1.drawn hm hc (by simpa using h2) (by simpa using h3) hG, h4⟩
theorem W.seq (h : W G P rd nt x ta dm σ (seqQ G P rd nt y Q)) : W G P rd nt (.seq x y) ta dm σ Q := by
  obtain ⟨ex, ta', dm', σ', h1, h2⟩ := h
  by_cases hx : ex = .normal
  · subst hx
    obtain ⟨ex2, ta2, dm2, σ2, h3, h4⟩ := h2
    exact ⟨ex2, ta2, dm2, σ2, h1.seq h3, h4⟩
  · refine ⟨ex, ta', dm', σ', h1.seq_out hx, ?_⟩
    unfold seqQ at h2
    split at h2
    · exact absurd rfl hx
    · exact h2
theorem W.cond {b : Bool} {c : Operand} (hc : oper2 ta c = .bool b) (h1 : b = true → W G P rd nt x ta dm σ Q) (h0 : b = false → W G P rd nt y ta dm σ Q) : W G P rd nt (.cond c x y) ta dm σ Q := by
  cases b with
  | true =>
    obtain ⟨ex, ta', dm', σ', h, k⟩ := h1 rfl
    exact ⟨ex, ta', dm', σ', SCode.cond hc h, k⟩
  | false =>
    obtain ⟨ex, ta', dm', σ', h, k⟩ := h0 rfl
    exact ⟨ex, ta', dm', σ', SCode.cond hc h, k⟩
def blkQ (id : Nat) (Q : Exit → (Nat → Value) → List Nat → Mem → Prop) (ex : Exit) (ta : Nat → Value) (dm : List Nat) (σ : Mem) : Prop := Q (outOf id ex) ta dm σ
theorem seqQ_ret (h : Q .ret ta dm σ) : seqQ G P rd nt y Q .ret ta dm σ := h
theorem blkQ_ret {id : Nat} (h : Q .ret ta dm σ) : blkQ id Q .ret ta dm σ := h
theorem W.block {id : Nat} (h : W G P rd nt c ta dm σ (blkQ id Q)) : W G P rd nt (.block id c) ta dm σ Q := by
  obtain ⟨ex, ta', dm', σ', h1, h2⟩ := h
  exact ⟨_, ta', dm', σ', h1.block, h2⟩
theorem W.scope (h : W G P rd nt c ta dm σ fun ex ta' dm' σ' => notGoto ex = true ∧ Q ex ta' dm' σ') : W G P rd nt (.scope c) ta dm σ Q := by
  obtain ⟨ex, ta', dm', σ', h1, h2, h3⟩ := h
  exact ⟨_, ta', dm', σ', h1.scope h2, h3⟩
theorem W.exit (id : Nat) (h : Q (.exit id) ta dm σ) : W G P rd nt (.exit id) ta dm σ Q := ⟨_, ta, dm, σ, SCode.exit id, h⟩
theorem W.ret (h : Q .ret ta dm σ) : W G P rd nt .ret ta dm σ Q := ⟨_, ta, dm, σ, SCode.ret, h⟩
theorem W.skip (h : Q .normal ta dm σ) : W G P rd nt .skip ta dm σ Q := ⟨_, ta, dm, σ, SCode.skip, h⟩
theorem W.label (i : Nat) (h : Q .normal ta dm σ) : W G P rd nt (.label i) ta dm σ Q := ⟨_, ta, dm, σ, SCode.label i, h⟩
/-- What a round of a loop comes to. -/
def rndQ (I : Nat → (Nat → Value) → Mem → Prop) (n : Nat) (dm : List Nat) (Q : Exit → (Nat → Value) → List Nat → Mem → Prop) : Exit → (Nat → Value) → List Nat → Mem → Prop
  | .normal, ta, dm', σ => dm' = dm ∧ ∃ m, m < n ∧ I m ta σ
  | ex, ta, dm', σ => Q ex ta dm' σ
theorem rndQ_ret {I : Nat → (Nat → Value) → Mem → Prop} {n : Nat} (h : Q .ret ta dm σ) : rndQ I n dm Q .ret ta dm σ := h
theorem W.loop (I : Nat → (Nat → Value) → Mem → Prop) (n : Nat) (h0 : I n ta σ) (hr : ∀ n ta σ, I n ta σ → W G P rd nt c ta dm σ (rndQ I n dm Q)) : W G P rd nt (.loop c) ta dm σ Q := by
  have key : ∀ (n : Nat) (ta : Nat → Value) (σ : Mem), I n ta σ → ∃ k ex ta' dm' σ', SRounds G P rd nt k c ta dm σ ex ta' dm' σ' ∧ Q ex ta' dm' σ' := by
    intro n
    induction n using Nat.strongRecOn with
    | _ n ih =>
      intro ta σ hI
      obtain ⟨ex, ta', dm', σ', h1, h2⟩ := hr n ta σ hI
      by_cases hx : ex = .normal
      · subst hx
        obtain ⟨rfl, m, hm, hI'⟩ := h2
        obtain ⟨k, ex2, ta2, dm2, σ2, h3, h4⟩ := ih m hm ta' σ' hI'
        exact ⟨k + 1, ex2, ta2, dm2, σ2, SRounds.more h1 h3, h4⟩
      · refine ⟨0 + 1, ex, ta', dm', σ', SRounds.last 0 h1 hx, ?_⟩
        unfold rndQ at h2
        split at h2
        · exact absurd rfl hx
        · exact h2
  obtain ⟨k, ex, ta', dm', σ', h1, h2⟩ := key n ta σ h0
  exact ⟨ex, ta', dm', σ', h1.loop, h2⟩
end
/-- The end of a function. -/
def endQ (P : Program) (rv : List ResultVar) (R : Value → Mem → Prop) (ex : Exit) (ta : Nat → Value) (dm : List Nat) (σ : Mem) : Prop := exOk ex = true ∧ dm = [] ∧ ∃ vs, resL P ta σ rv = some vs ∧ R (tupV vs) σ
theorem WC.enter {f : FuncId} {args : Array Value} {fn : Func} {c : Code} {R : Value → Mem → Prop} (hf : P.funcs[f]? = some fn) (hb : fn.body = some c) (h : W G P none (args.size + (fn.ntmps - args.size)) c (fun t => args.getD t undef) [] σ (endQ P fn.results.toList R)) : WC G P f args σ R := by
  obtain ⟨ex, ta', dm', σ', h1, h2, rfl, vs, h3, h4⟩ := h
  have hex : ex = .normal ∨ ex = .ret := by cases ex <;> simp [exOk] at h2 <;> simp
  exact ⟨_, σ', SCall.of_code hf hb h1 hex rfl rfl (fun b hb' => by cases hb') (sres h3), h4⟩
theorem endQ_one {R : Value → Mem → Prop} {ex : Exit} {t : Nat} (he : exOk ex = true) (h : R (ta t) σ) : endQ P [.tmp t] R ex ta [] σ := ⟨he, rfl, [ta t], rfl, h⟩
theorem endQ_two {R : Value → Mem → Prop} {ex : Exit} {t u : Nat} (he : exOk ex = true) (h : R (.tuple #[ta t, ta u]) σ) : endQ P [.tmp t, .tmp u] R ex ta [] σ := ⟨he, rfl, [ta t, ta u], rfl, h⟩
theorem endQ_three {R : Value → Mem → Prop} {ex : Exit} {t u v : Nat} (he : exOk ex = true) (h : R (.tuple #[ta t, ta u, ta v]) σ) : endQ P [.tmp t, .tmp u, .tmp v] R ex ta [] σ := ⟨he, rfl, [ta t, ta u, ta v], rfl, h⟩
theorem wrap_in {a : Int} (h1 : -9223372036854775808 ≤ a) (h2 : a ≤ 9223372036854775807) : IntKind.i64.wrap a = a := by
  simp [IntKind.wrap, IntKind.bits, IntKind.signed]
  omega
open Go.RowKit in
/-- From the second memory to every world in which the rows lie. -/
theorem calls_of {f : FuncId} {l : List (Nat × List Value)} {args : List Value} {v : Value} {σ' : Mem} (hs : SCall G P f args.toArray (startE G l).mem v σ') (ha : args.all (closedV 3) = true) (hv : closedV 3 v = true) {w : World} (hl : RowsLie w l) (hG : ∀ g cs, (g, cs) ∈ l → g < G) :
    Calls P f args.toArray w fun e w' => e = .returned v ∧ Below w.heap.size w w' := by
  have hsim := start_sim hl hG
  refine (hs.2 (startMu G l) w args.toArray hsim (Nat.le_refl _) (fun b h1 _ => ?_) ⟨rfl, fun i x x' h1 h2 => ?_⟩).mono ?_
  · have h1 : G ≤ b := h1
    unfold startMu
    rw [if_neg (by omega)]
  · rw [h1] at h2
    cases h2
    exact closedV_rel _ 3 x (List.all_eq_true.1 ha x (List.mem_of_getElem? (by simpa using h1)))
  · rintro e w' ⟨vc, μ', rfl, hst, hr⟩
    refine ⟨by rw [closedV_eq 3 _ _ hv hr], hst.os, hst.tape, hst.output, hst.size, fun B hB => hst.keep B hB fun b x bi hGb hx _ => ?_⟩
    have : b < G := Mem.lt hx
    omega
theorem rowsAt_at : ∀ (l : List (Nat × List Value)), (l.map (·.1)).Nodup → ∀ g cs, (g, cs) ∈ l → (rowsAt l).get g = some (.b (.row ⟨cs, 0, true⟩))
  | [], _, g, cs, h => by cases h
  | (g0, cs0) :: l, hn, g, cs, h => by
    simp only [rowsAt, T.get_put]
    rw [List.map_cons, List.nodup_cons] at hn
    rcases List.mem_cons.1 h with h1 | h1
    · cases h1; simp
    · have : g ≠ g0 := fun e => hn.1 (List.mem_map.2 ⟨(g, cs), h1, e⟩)
      rw [if_neg this]
      exact rowsAt_at l hn.2 g cs h1
theorem start_rows {l : List (Nat × List Value)} (hn : (l.map (·.1)).Nodup) (hG : ∀ g cs, (g, cs) ∈ l → g < G) : RowsAt l (startE G l).mem := fun g cs hm => by
  have h1 := rowsAt_at l hn g cs hm
  have h2 : g < (startE G l).mem.next := hG g cs hm
  exact ⟨0, true, by
    unfold Mem.get
    rw [if_pos h2]
    show (match (rowsAt l).get g with | some x => some (toB x) | none => none) = _
    rw [h1]
    rfl⟩
end Go.Proofs.YtpjpefcpbkmilaaDoor
