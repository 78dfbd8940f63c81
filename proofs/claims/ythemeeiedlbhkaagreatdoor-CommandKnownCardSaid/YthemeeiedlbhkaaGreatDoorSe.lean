/-
  Rules for code and for calls, over any program: from a second memory to another. Conditions: none.
-/
import Derived.Test.YthemeeiedlbhkaaGreatDoorSd
namespace Go.Proofs.YthemeeiedlbhkaaGreatDoor
open Classical
variable {P : Program} {G : Nat} {nt : Nat}

def Fresh (μ : Mu) (σ σ' : Mem) : Prop := ∀ b, σ.next ≤ b → b < σ'.next → μ b = none
theorem first_stage {ops : Array Oper} {ta : Nat → Value} (R : Run G P ops ta nt) : ∃ J, J ≤ ops.size ∧ (∀ k, k < J → (R.did k).isE = false) ∧ (J = ops.size ∨ (J < ops.size ∧ (R.did J).isE = true)) := by
  have key : ∀ n, ∀ k, k ≤ ops.size → ops.size - k = n → (∀ i, i < k → (R.did i).isE = false) → ∃ J2, J2 ≤ ops.size ∧ (∀ k, k < J2 → (R.did k).isE = false) ∧ (J2 = ops.size ∨ (J2 < ops.size ∧ (R.did J2).isE = true)) := by
    intro n
    induction n with
    | zero => intro k h2 h3 h4; exact ⟨k, h2, h4, .inl (by omega)⟩
    | succ n ih =>
      intro k h2 h3 h4
      cases he : (R.did k).isE with
      | true => exact ⟨k, h2, h4, .inr ⟨by omega, he⟩⟩
      | false =>
        refine ih (k + 1) (by omega) (by omega) fun i hk => ?_
        rcases Nat.lt_or_ge i k with h5 | h5
        · exact h4 i h5
        · obtain rfl : i = k := by omega
          exact he
  exact key _ 0 (by omega) rfl fun i h2 => by omega
theorem isL_none {n i : Nat} : ¬ isL (Array.replicate n false) i := by
  unfold isL
  simp only [Array.getD_eq_getD_getElem?, Array.getElem?_replicate]
  split <;> simp
theorem Inv.start {ops : Array Oper} {ta : Nat → Value} {R : Run G P ops ta nt} (h : R.Ok) {μ : Mu} {w : World} {a : Act} (hs : Sim G μ (R.mem 0) w) (hf : Fresh μ (R.mem 0) (R.mem ops.size)) (ht : TRel μ nt ta a.tmps) : ∃ J, Inv R μ w a.defers (Array.replicate ops.size false) J μ a w := by
  obtain ⟨J, h1, h2, h3⟩ := first_stage R
  have cm := h.calm (i := 0) (j := J) (Nat.zero_le _) h1 fun k _ hk => h2 k hk
  have hlate : ∀ b, Late R (Array.replicate ops.size false) b → (R.mem 0).next ≤ b ∧ b < (R.mem ops.size).next := by
    rintro b ⟨i, g1, g2, g3, _⟩
    have := h.mono (i := 0) (j := i) (Nat.zero_le _) (by omega)
    have := h.make_lt g1 g2
    have := h.mono (i := i + 1) (j := ops.size) (by omega) (Nat.le_refl _)
    omega
  have hg : ∀ b, (memD R J (Array.replicate ops.size false)).get b = (R.mem 0).get b := fun b => by
    rw [memD_get h h1]
    by_cases hl : Late R (Array.replicate ops.size false) b
    · rw [if_pos hl]
      have := hlate b hl
      unfold Mem.get
      rw [if_neg (by omega)]
    · rw [if_neg hl]
      rcases Nat.lt_or_ge b (R.mem 0).next with hb | hb
      · unfold Run.at_
        rw [if_pos (Nat.lt_of_lt_of_le hb (h.mono (Nat.zero_le _) h1)), (cm b).1 hb]
      · have h0 : (R.mem 0).get b = none := by unfold Mem.get; rw [if_neg (by omega)]
        rw [h0]
        cases hx : R.at_ J b with
        | none => rfl
        | some x =>
          exfalso
          rcases Nat.lt_or_ge b (R.mem J).next with hb2 | hb2
          · obtain ⟨k, y, fm, q1, q2, q3, q4, q5⟩ := (cm b).2 hb hb2
            exact hl ⟨k, by omega, by rw [q3]; rfl, q4, isL_none⟩
          · obtain ⟨i, fm, q1, q2, q3⟩ := at_new h hb2 hx
            exact hl ⟨i, q1, by rw [q2]; rfl, q3, isL_none⟩
  refine ⟨J, ⟨fun j o hj => absurd hj isL_none, by simp, rfl, h1, fun i hi hE => (by rw [h2 i hi] at hE; cases hE), h3.imp id fun ⟨x, y⟩ => ⟨x, y, isL_none⟩, ?_, ?_, fun b hb => hf b (hlate b hb).1 (hlate b hb).2, fun b bi g1 g2 g3 => ?_⟩⟩
  · have : R.cur (Array.replicate ops.size false) = ta := by
      funext t
      unfold Run.cur
      cases R.wr t with
      | none => rfl
      | some i => simp only [if_neg isL_none]
    rw [this]
    exact ht
  · refine ⟨h.mono (Nat.zero_le _) (Nat.le_refl _), hf, fun _ _ => rfl, ⟨hs.glob, fun b x bi hx => hs.blk b x bi (by rw [← hg]; exact hx), fun b b' x x' bi bi' hx hx' => hs.inj b b' x x' bi bi' (by rw [← hg]; exact hx) (by rw [← hg]; exact hx'), fun b x bi hG hx => hs.rw_ b x bi hG (by rw [← hg]; exact hx)⟩, Nat.le_refl _, rfl, rfl, rfl, fun _ _ _ => rfl, fun b x bi hb hx _ => ?_, fun b x _ hx => ⟨x, by rw [← hg]; exact hx⟩, h.low⟩
    rw [hg] at hx
    exact absurd (Mem.lt hx) (by omega)
  · have := h.mono (i := 0) (j := J) (Nat.zero_le _) h1
    rw [hf b (by omega) g2] at g3
    cases g3

/-- What waits for a function's end: the marks that loops over functions have left, deferred calls. -/
inductive DItem where
  | mark (b : Nat)
  | call (f : FuncId) (args caps : Array Value)
def DIRel (μ : Mu) : DItem → Deferred → Prop
  | .mark b, d => ∃ bi, μ b = some bi ∧ d = { target := .collected bi.blk, args := #[] }
  | .call f as cs, d => ∃ as' cs', d = { target := .fn (.func f) cs', args := as' } ∧ ARel μ as as' ∧ ARel μ cs cs'
theorem DIRel.ext {μ μ' : Mu} (he : Ext μ μ') : ∀ {i : DItem} {d : Deferred}, DIRel μ i d → DIRel μ' i d
  | .mark _, _, ⟨bi, h1, h2⟩ => ⟨bi, he _ _ h1, h2⟩
  | .call _ _ _, _, ⟨as', cs', h1, h2, h3⟩ => ⟨as', cs', h1, h2.ext he, h3.ext he⟩
def DRel (μ : Mu) : List DItem → List Deferred → Prop
  | [], [] => True
  | b :: bs, d :: ds => DIRel μ b d ∧ DRel μ bs ds
  | _, _ => False
theorem DRel.ext {μ μ' : Mu} (he : Ext μ μ') : ∀ {bs : List DItem} {ds : List Deferred}, DRel μ bs ds → DRel μ' bs ds
  | [], [], _ => trivial
  | _ :: _, _ :: _, ⟨h1, h⟩ => ⟨h1.ext he, DRel.ext he h⟩
/-- The round in which code is carried out. -/
def RdRel (μ : Mu) : Option Nat → Option Nat → Prop
  | none, none => True
  | some l, some c => ∃ bi, μ l = some bi ∧ c = bi.blk
  | _, _ => False
theorem RdRel.ext {μ μ' : Mu} (he : Ext μ μ') : ∀ {r c : Option Nat}, RdRel μ r c → RdRel μ' r c
  | none, none, _ => trivial
  | some _, some _, ⟨bi, h1, h2⟩ => ⟨bi, he _ _ h1, h2⟩
/-- Code, from temporaries, marks and memory to others. -/
def SCode (G : Nat) (P : Program) (rd : Option Nat) (nt : Nat) (c : Code) (ta : Nat → Value) (dm : List DItem) (σ : Mem) (ex : Exit) (ta' : Nat → Value) (dm' : List DItem) (σ' : Mem) : Prop :=
  σ.next ≤ σ'.next ∧ ∀ μ w (a : Act) rc, Sim G μ σ w → G ≤ σ.next → Fresh μ σ σ' → TRel μ nt ta a.tmps → DRel μ dm a.defers → RdRel μ rd rc → ∀ Q : Exit → Act → World → Prop, (∀ (a' : Act) w' μ', DRel μ' dm' a'.defers → Stp G σ μ w σ' μ' w' → TRel μ' nt ta' a'.tmps → Q ex a' w') → c.wpIn (FW rc) 0 P Q a w
/-- A call. -/
def SCall (G : Nat) (P : Program) (f : FuncId) (args : Array Value) (σ : Mem) (v : Value) (σ' : Mem) : Prop :=
  σ.next ≤ σ'.next ∧ ∀ μ w cargs, Sim G μ σ w → G ≤ σ.next → Fresh μ σ σ' → ARel μ args cargs → Calls P f cargs w fun e w' => ∃ vc μ', e = .returned vc ∧ Stp G σ μ w σ' μ' w' ∧ VRel μ' v vc

theorem Fresh.left {μ : Mu} {σ σ1 σ2 : Mem} (h : Fresh μ σ σ2) (k : σ1.next ≤ σ2.next) : Fresh μ σ σ1 := fun b h1 h2 => h b h1 (by omega)
theorem Fresh.right {μ μ1 : Mu} {σ σ1 σ2 : Mem} {w w1 : World} (h : Fresh μ σ σ2) (s : Stp G σ μ w σ1 μ1 w1) : Fresh μ1 σ1 σ2 := fun b h1 h2 => by
  rw [s.ext b (.inr h1)]; exact h b (Nat.le_trans s.next h1) h2

section
variable {rd : Option Nat} {x y c : Code} {ta ta1 ta2 : Nat → Value} {dm dm1 dm2 : List DItem} {σ σ1 σ2 : Mem} {ex : Exit}
theorem region_drawn {id : Nat} {ops : Array Oper} {R : Run G P ops ta nt} (h : R.Ok) (hm : P.follows .mixedOrders = true) : SCode G P rd nt (.region id ops true) ta dm (R.mem 0) .normal (R.tm ops.size) dm (R.mem ops.size) := by
  refine ⟨h.mono (Nat.zero_le _) (Nat.le_refl _), fun μ w a rc hs hG hf ht hd _ Q hQ => wpIn_region_any hm ?_⟩
  have hs' : Sim G μ (R.mem 0) { w with drawn := w.drawn + 1 } := hs.drawn rfl
  obtain ⟨J, I⟩ := Inv.start h hs' hf ht
  refine region_any h rc (μ0 := μ) (w0 := { w with drawn := w.drawn + 1 }) (df := a.defers) (fun a' w' μ' he hst htr => hQ a' w' μ' ?_ ?_ htr) ops.size _ J μ a _ ?_ I
  · rw [he]; exact hd.ext hst.extE
  · exact ⟨hst.next, hst.fresh, hst.ext, hst.sim, hst.size, hst.os, hst.tape, hst.output, hst.keep, hst.new, hst.live, hst.low⟩
  · unfold unl
    exact Nat.le_trans (List.length_filter_le _ _) (by simp)
theorem SCode.skip : SCode G P rd nt .skip ta dm σ .normal ta dm σ :=
  ⟨Nat.le_refl _, fun μ w a _rc hs hG _ ht hd _ _Q hQ => wpIn_skip (hQ a w μ hd (Stp.refl hs hG) ht)⟩
theorem SCode.exit (id : Nat) : SCode G P rd nt (.exit id) ta dm σ (.exit id) ta dm σ :=
  ⟨Nat.le_refl _, fun μ w a _rc hs hG _ ht hd _ _Q hQ => wpIn_exit (hQ a w μ hd (Stp.refl hs hG) ht)⟩
theorem SCode.ret : SCode G P rd nt .ret ta dm σ .ret ta dm σ :=
  ⟨Nat.le_refl _, fun μ w a _rc hs hG _ ht hd _ _Q hQ => wpIn_ret (hQ a w μ hd (Stp.refl hs hG) ht)⟩
theorem SCode.label (l : Nat) : SCode G P rd nt (.label l) ta dm σ .normal ta dm σ :=
  ⟨Nat.le_refl _, fun μ w a _rc hs hG _ ht hd _ _Q hQ => wpIn_label (hQ a w μ hd (Stp.refl hs hG) ht)⟩
theorem SCode.seq (h : SCode G P rd nt x ta dm σ .normal ta1 dm1 σ1) (k : SCode G P rd nt y ta1 dm1 σ1 ex ta2 dm2 σ2) : SCode G P rd nt (.seq x y) ta dm σ ex ta2 dm2 σ2 :=
  ⟨Nat.le_trans h.1 k.1, fun μ w a rc hs hG hf ht hd hr Q hQ => wpIn_seq (h.2 μ w a rc hs hG (hf.left k.1) ht hd hr _ fun a1 w1 μ1 hd1 hst htr =>
    k.2 μ1 w1 a1 rc hst.sim (Nat.le_trans hG hst.next) (hf.right hst) htr hd1 (hr.ext hst.extE) Q fun a2 w2 μ2 hd2 hst2 htr2 => hQ a2 w2 μ2 hd2 (hst.trans hst2) htr2)⟩
theorem SCode.seq_out (h : SCode G P rd nt x ta dm σ ex ta1 dm1 σ1) (hx : ex ≠ .normal) : SCode G P rd nt (.seq x y) ta dm σ ex ta1 dm1 σ1 :=
  ⟨h.1, fun μ w a rc hs hG hf ht hd hr Q hQ => wpIn_seq (h.2 μ w a rc hs hG hf ht hd hr _ fun a1 w1 μ1 hd hst htr => by
    have := hQ a1 w1 μ1 hd hst htr
    cases ex <;> first | exact absurd rfl hx | exact this)⟩
theorem SCode.cond {c : Operand} {b : Bool} (hc : oper2 ta c = .bool b) (h : SCode G P rd nt (if b then x else y) ta dm σ ex ta1 dm1 σ1) : SCode G P rd nt (.cond c x y) ta dm σ ex ta1 dm1 σ1 :=
  ⟨h.1, fun μ w a rc hs hG hf ht hd hr Q hQ => wpIn_cond (t := b) (by
    cases c with
    | tmp t => exact ((ht.2 t).bool_iff b).2 hc
    | const v => exact hc
    | global g => cases hc
    | func f => cases hc) (h.2 μ w a rc hs hG hf ht hd hr Q hQ)⟩
def outOf (id : Nat) : Exit → Exit
  | .exit i => if i = id then .normal else .exit i
  | e => e
theorem SCode.block {id : Nat} (h : SCode G P rd nt c ta dm σ ex ta1 dm1 σ1) : SCode G P rd nt (.block id c) ta dm σ (outOf id ex) ta1 dm1 σ1 :=
  ⟨h.1, fun μ w a rc hs hG hf ht hd hr Q hQ => wpIn_block (h.2 μ w a rc hs hG hf ht hd hr _ fun a1 w1 μ1 hd hst htr => by
    have := hQ a1 w1 μ1 hd hst htr
    cases ex <;> simp only [Exit.inBlock, outOf] at this ⊢ <;> first | exact this | skip
    split at this
    · rw [if_pos (by assumption)]; exact this
    · rw [if_neg (by assumption)]; exact this)⟩
theorem stepR_scope {b : Frame} {a : Act} {k : List Item} {cs : List Frame} {w : World} {c : Code} : step P (lone (b.atR a (.code (.scope c) :: k)) cs w) = .next (lone (b.atR a (.code c :: .inScope c :: k)) cs w) :=
  step_lone_go (by simp [stepG, stepG.exec, Frame.atR])
theorem stepR_inScope {b : Frame} {a : Act} {k : List Item} {cs : List Frame} {w : World} {c : Code} : step P (lone (b.atR a (.inScope c :: k)) cs w) = .next (lone (b.atR a k) cs w) :=
  step_lone_go (by simp [stepG, stepG.exec, Frame.atR])
def notGoto : Exit → Bool | .goto _ => false | _ => true
theorem wpIn_scope {F : Fence} {n : Nat} {Q : Exit → Act → World → Prop} {a : Act} {w : World} {c : Code} (h : c.wpIn F n P (fun e a w => notGoto e = true ∧ Q e a w) a w) : (Code.scope c).wpIn F n P Q a w := by
  intro b k cs hro hb hr
  have h0 : (lone (b.atR a (.code (.scope c) :: k)) cs w).fenced P F := fenced_calm hb hr rfl
  obtain ⟨e, a₁, w₁, ⟨hg, hq⟩, harr⟩ := h b (.inScope c :: k) cs hro hb hr
  cases e with
  | normal => exact ⟨.normal, a₁, w₁, hq, .head h0 stepR_scope (StepsIn.trans harr (.one (fenced_calm hb hr rfl) stepR_inScope))⟩
  | exit id =>
    have hx : exitTo id (.inScope c :: k) = exitTo id k := by simp [exitTo]
    exact ⟨.exit id, a₁, w₁, hq, fun k' hk => .head h0 stepR_scope (harr.1 k' (by rw [hx]; exact hk)),
      fun hr' hk => let ⟨k₁, h1, h2⟩ := harr.2 hr' (by rw [hx]; exact hk); ⟨k₁, h1, .head h0 stepR_scope h2⟩⟩
  | goto l => cases hg
  | ret => exact ⟨_, a₁, w₁, hq, .of_steps (.one h0 stepR_scope) harr⟩
  | panic ch => exact ⟨_, a₁, w₁, hq, .of_steps (.one h0 stepR_scope) harr⟩
  | outgrown => exact ⟨_, a₁, w₁, hq, .of_steps (.one h0 stepR_scope) harr⟩
theorem SCode.scope (h : SCode G P rd nt c ta dm σ ex ta1 dm1 σ1) (hx : notGoto ex = true) : SCode G P rd nt (.scope c) ta dm σ ex ta1 dm1 σ1 :=
  ⟨h.1, fun μ w a rc hs hG hf ht hd hr _Q hQ => wpIn_scope (h.2 μ w a rc hs hG hf ht hd hr _ fun a1 w1 μ1 hd hst htr => ⟨hx, hQ a1 w1 μ1 hd hst htr⟩)⟩
/-- So many rounds. -/
def SRounds (G : Nat) (P : Program) (rd : Option Nat) (nt : Nat) (n : Nat) (c : Code) (ta : Nat → Value) (dm : List DItem) (σ : Mem) (ex : Exit) (ta' : Nat → Value) (dm' : List DItem) (σ' : Mem) : Prop :=
  σ.next ≤ σ'.next ∧ ∀ μ w (a : Act) rc, Sim G μ σ w → G ≤ σ.next → Fresh μ σ σ' → TRel μ nt ta a.tmps → DRel μ dm a.defers → RdRel μ rd rc → ∀ Q : Exit → Act → World → Prop, (∀ (a' : Act) w' μ', DRel μ' dm' a'.defers → Stp G σ μ w σ' μ' w' → TRel μ' nt ta' a'.tmps → Q ex a' w') → Code.roundsIn (FW rc) 0 P c Q n a w
theorem SRounds.loop {n : Nat} (h : SRounds G P rd nt n c ta dm σ ex ta1 dm1 σ1) : SCode G P rd nt (.loop c) ta dm σ ex ta1 dm1 σ1 :=
  ⟨h.1, fun μ w a rc hs hG hf ht hd hr Q hQ => wpIn_loop_rounds n (h.2 μ w a rc hs hG hf ht hd hr Q hQ)⟩
theorem SRounds.last (n : Nat) (h : SCode G P rd nt c ta dm σ ex ta1 dm1 σ1) (hx : ex ≠ .normal) : SRounds G P rd nt (n + 1) c ta dm σ ex ta1 dm1 σ1 :=
  ⟨h.1, fun μ w a rc hs hG hf ht hd hr Q hQ => h.2 μ w a rc hs hG hf ht hd hr _ fun a1 w1 μ1 hd hst htr => by
    have := hQ a1 w1 μ1 hd hst htr
    cases ex <;> first | exact absurd rfl hx | exact this⟩
theorem SRounds.more {n : Nat} (h : SCode G P rd nt c ta dm σ .normal ta1 dm1 σ1) (k : SRounds G P rd nt n c ta1 dm1 σ1 ex ta2 dm2 σ2) : SRounds G P rd nt (n + 1) c ta dm σ ex ta2 dm2 σ2 :=
  ⟨Nat.le_trans h.1 k.1, fun μ w a rc hs hG hf ht hd hr Q hQ => h.2 μ w a rc hs hG (hf.left k.1) ht hd hr _ fun a1 w1 μ1 hd1 hst htr =>
    k.2 μ1 w1 a1 rc hst.sim (Nat.le_trans hG hst.next) (hf.right hst) htr hd1 (hr.ext hst.extE) Q fun a2 w2 μ2 hd2 hst2 htr2 => hQ a2 w2 μ2 hd2 (hst.trans hst2) htr2⟩
end
/-- The results that a function hands over. -/
def SRes (G : Nat) (P : Program) (nt : Nat) (fn : Func) (ta : Nat → Value) (σ : Mem) (v : Value) : Prop :=
  ∀ μ w tmps, Sim G μ σ w → TRel μ nt ta tmps → ∃ vc, (results fn tmps).run P w = .ok vc w ∧ VRel μ v vc
/-- A deferred call at a function's end that is no panic's. -/
def SDCall (G : Nat) (P : Program) (f : FuncId) (args : Array Value) (σ σ' : Mem) : Prop :=
  σ.next ≤ σ'.next ∧ ∀ μ w cargs, Sim G μ σ w → G ≤ σ.next → Fresh μ σ σ' → ARel μ args cargs → CallsDIn (FW none) 0 P f cargs .returning w fun e u' w' => ∃ v μ', e = .returned v ∧ u' = .returning ∧ Stp G σ μ w σ' μ' w'
/-- What waits is taken one by one. -/
inductive Shut (G : Nat) (P : Program) : List DItem → Mem → Mem → Prop
  | nil (σ : Mem) : Shut G P [] σ σ
  | mark {b : Nat} {bs : List DItem} {σ σ2 : Mem} (hx : σ.get b = some (.defs true)) (hb : G ≤ b) (h : Shut G P bs (σ.put b (.defs false)) σ2) : Shut G P (.mark b :: bs) σ σ2
  | call {f : FuncId} {args caps : Array Value} {bs : List DItem} {σ σ1 σ2 : Mem} (hp : ∀ as cs w, (invoke (.fn (.func f) cs) as).run P w = .ok (.enter f (as ++ cs)) w) (hc : SDCall G P f (args ++ caps) σ σ1) (h : Shut G P bs σ1 σ2) : Shut G P (.call f args caps :: bs) σ σ2
theorem Shut.next {bs : List DItem} {σ σ2 : Mem} (h : Shut G P bs σ σ2) : σ.next ≤ σ2.next := by
  induction h with
  | nil => exact Nat.le_refl _
  | mark _ _ _ ih => exact ih
  | call _ hc _ ih => exact Nat.le_trans hc.1 ih
theorem setObj_run {w : World} {r : Nat} {o x : Obj} (h : w.heap[r]? = some x) (hx : ∀ c t f, x ≠ .cells c t f) : (setObj r o).run P w = .ok () { w with heap := w.heap.setIfInBounds r o } := by
  unfold setObj
  cases x <;> first | exact absurd rfl (hx _ _ _) | simp only [Sem.run, h]
theorem getObj_run {w : World} {r : Nat} {x : Obj} (h : w.heap[r]? = some x) (hx : ∀ c t f, x ≠ .cells c t f) : (getObj r).run P w = .ok x w := by
  unfold getObj
  cases x <;> first | exact absurd rfl (hx _ _ _) | simp only [Sem.run, h]
/-- An object that is no row is replaced. -/
theorem Stp.setObj {σ : Mem} {μ : Mu} {w : World} (hs : Sim G μ σ w) (hG : G ≤ σ.next) {b : Nat} {x y : Blk2} {bi : BI} (hb : G ≤ b) (hx : σ.get b = some x) (hm : μ b = some bi) {o : Obj}
    (hy : ∀ w' : World, w'.heap[bi.blk]? = some o → BlkIn w' μ bi y) : Stp G σ μ w (σ.put b y) μ { w with heap := w.heap.setIfInBounds bi.blk o } := by
  have hlt := (hs.blk b x bi hx hm).lt
  refine Stp.turn hs hG hb hx hm (hy _ (by simp [hlt])) (by simp) rfl rfl rfl fun B hB => ?_
  simp [Array.getElem?_setIfInBounds_ne (Ne.symm hB)]
theorem ARel.appendE {μ : Mu} {a b a' b' : Array Value} (h : ARel μ a a') (k : ARel μ b b') : ARel μ (a ++ b) (a' ++ b') := by
  refine ⟨by simp [h.1, k.1], fun i v v' h1 h2 => ?_⟩
  rw [Array.getElem?_append] at h1 h2
  rw [← h.1] at h2
  split at h1
  · rename_i hi
    rw [if_pos hi] at h2
    exact h.2 i v v' h1 h2
  · rename_i hi
    rw [if_neg hi] at h2
    exact k.2 _ v v' h1 h2
theorem leaves {fn : Func} {σ σ2 : Mem} {v : Value} {tmps : Array Value} {ta : Nat → Value} {dm : List DItem} (hr : SRes G P nt fn ta σ2 v) (h : Shut G P dm σ σ2) {R : Ending → World → Prop} : ∀ (ds : List Deferred) (μ : Mu) (w : World), DRel μ dm ds → Sim G μ σ w → G ≤ σ.next → Fresh μ σ σ2 → TRel μ nt ta tmps →
    (∀ vc w' μ', Stp G σ μ w σ2 μ' w' → VRel μ' v vc → R (.returned vc) w') → LeavesInM (FW none) 0 P fn tmps R ds .returning w := by
  induction h with
  | nil σ =>
    intro ds μ w hd hs hG _ ht hR
    cases ds with
    | cons d ds => exact hd.elim
    | nil =>
      obtain ⟨vc, hrun, hv⟩ := hr μ w tmps hs ht
      exact ⟨vc, hrun, hR vc w μ (Stp.refl hs hG) hv⟩
  | @mark b bs σ σ2 hx hb h ih =>
    intro ds μ w hd hs hG hf ht hR
    cases ds with
    | nil => exact hd.elim
    | cons d ds =>
      obtain ⟨⟨bi, hb', hd'⟩, hds⟩ := hd
      have hin : w.heap[bi.blk]? = some (.deferred (some [])) := hs.blk b _ bi hx hb'
      have st := Stp.setObj (o := .deferred none) (y := .defs false) hs hG hb hx hb' (fun w' hw => hw)
      refine ⟨by simp, .inl ⟨bi.blk, _, by rw [hd'], ?_, ih hr ds μ _ hds st.sim hG hf ht fun vc w' μ' st2 hv => hR vc w' μ' (st.trans st2) hv⟩⟩
      unfold Instr.takeDeferred
      simp only [Sem.run_bind, getObj_run hin (by simp), Result.andThen_ok, setObj_run hin (by simp)]
      rfl
  | @call f args caps bs σ σ1 σ2 hp hc h ih =>
    intro ds μ w hd hs hG hf ht hR
    cases ds with
    | nil => exact hd.elim
    | cons d ds =>
      obtain ⟨⟨as', cs', hd', ha, hca⟩, hds⟩ := hd
      refine ⟨by simp, .inr ⟨fun h => by simp [Fence.wide] at h, .func f, cs', f, as' ++ cs', by rw [hd'], by rw [hd']; exact hp _ _ _, fun _ _ => trivial, ?_⟩⟩
      refine (hc.2 μ w (as' ++ cs') hs hG (hf.left h.next) (ha.appendE hca)).mono ?_
      rintro e u' w1 ⟨v1, μ1, rfl, rfl, st⟩
      exact ih hr ds μ1 w1 (hds.ext st.extE) st.sim (Nat.le_trans hG st.next) (hf.right st) (ht.ext st.extE) fun vc w' μ' st2 hv => hR vc w' μ' (st.trans st2) hv
theorem SCall.of_code {f : FuncId} {fn : Func} {c : Code} {args : Array Value} {σ σ' σ2 : Mem} {ex : Exit} {ta' : Nat → Value} {dm : List DItem} {v : Value} (hf : P.funcs[f]? = some fn) (hb : fn.body = some c)
    (h : SCode G P none (args.size + (fn.ntmps - args.size)) c (fun t => args.getD t undef) [] σ ex ta' dm σ') (hx : ex = .normal ∨ ex = .ret) (hs : Shut G P dm σ' σ2)
    (hr : SRes G P (args.size + (fn.ntmps - args.size)) fn ta' σ2 v) : SCall G P f args σ v σ2 := by
  refine ⟨Nat.le_trans h.1 hs.next, fun μ w cargs hsim hG hfr ha => ?_⟩
  refine (callsIn_wide (n := 0)).1 (callsIn_of_wp_marks (F := FW none) hf hb trivial (h.2 μ w { tmps := cargs ++ Array.replicate (fn.ntmps - cargs.size) undef, defers := [] } none hsim hG (hfr.left hs.next) ⟨by simp [ha.1], fun t => ?_⟩ trivial trivial _ fun a' w' μ' hd' hst htr => ?_))
  · simp only [Array.getD_eq_getD_getElem?, Array.getElem?_append, Array.getElem?_replicate]
    rcases Nat.lt_or_ge t args.size with h1 | h1
    · have h2 : t < cargs.size := by rw [← ha.1]; exact h1
      simp only [h1, h2, if_true, getElem?_pos, Option.getD_some]
      exact ha.2 t _ _ (by simp [h1]) (by simp [h2])
    · have h2 : ¬ t < cargs.size := by rw [← ha.1]; omega
      simp only [h2, if_false]
      rw [Array.getElem?_eq_none (by omega)]
      split <;> exact VRel.undef μ
  · have hl : LeavesInM (FW none) 0 P fn a'.tmps (fun e w' => ∃ vc μ', e = .returned vc ∧ Stp G σ μ w σ2 μ' w' ∧ VRel μ' v vc) a'.defers .returning w' :=
      leaves hr hs a'.defers μ' w' hd' hst.sim (Nat.le_trans hG hst.next) (hfr.right hst) htr fun vc w2 μ2 st hv => ⟨vc, μ2, rfl, hst.trans st, hv⟩
    rcases hx with rfl | rfl <;> exact hl
end Go.Proofs.YthemeeiedlbhkaaGreatDoor
