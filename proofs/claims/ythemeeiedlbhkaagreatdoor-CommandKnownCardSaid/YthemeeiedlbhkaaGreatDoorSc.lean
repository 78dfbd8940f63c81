/-
  A region whose order is open: whatever order its edges allow, it does what it does in the order of the text, if the record of that order passes the checks named here. Over any program. Conditions: none.
-/
import Derived.Test.YthemeeiedlbhkaaGreatDoorSb
namespace Go.Proofs.YthemeeiedlbhkaaGreatDoor
open Classical
variable {P : Program} {G : Nat}

/-- Operation i comes before j in every order. -/
inductive Pre (ops : Array Oper) : Nat → Nat → Prop
  | one {i j : Nat} {o : Oper} {e : Edge} (ho : ops[j]? = some o) (he : e ∈ o.after) (hb : Region.binds .any e = true) (hi : e.on = i) : Pre ops i j
  | two {i k j : Nat} {o : Oper} {e : Edge} (ho : ops[j]? = some o) (he : e ∈ o.after) (hb : Region.binds .any e = true) (hk : e.on = k) (h : Pre ops i k) : Pre ops i j
abbrev isL (listed : Array Bool) (i : Nat) : Prop := listed.getD i false = true
def Dn (ops : Array Oper) (listed : Array Bool) : Prop := ∀ (j : Nat) (o : Oper), isL listed j → ops[j]? = some o → ∀ e ∈ o.after, Region.binds .any e = true → isL listed e.on
theorem Dn.pre {ops : Array Oper} {listed : Array Bool} (h : Dn ops listed) {i j : Nat} (p : Pre ops i j) : isL listed j → isL listed i := by
  induction p with
  | one ho he hb hi => intro hj; exact hi ▸ h _ _ hj ho _ he hb
  | two ho he hb hk _ ih => intro hj; exact ih (hk ▸ h _ _ hj ho _ he hb)
theorem Dn.ready {ops : Array Oper} {listed : Array Bool} (h : Dn ops listed) {i j : Nat} (hr : j ∈ Region.ready .any ops listed) (p : Pre ops i j) : isL listed i := by
  obtain ⟨_, o, ho, hall⟩ := mem_ready.1 hr
  cases p with
  | one ho' he hb hi => rw [ho] at ho'; cases ho'; exact hi ▸ hall _ he hb
  | two ho' he hb hk p => rw [ho] at ho'; cases ho'; exact h.pre p (hk ▸ hall _ he hb)
theorem Dn.set {ops : Array Oper} {listed : Array Bool} (h : Dn ops listed) {j : Nat} (hr : j ∈ Region.ready .any ops listed) : Dn ops (listed.setIfInBounds j true) := fun k o hk ho e he hb => by
  obtain ⟨_, o', ho', hall⟩ := mem_ready.1 hr
  by_cases hkj : j = k
  · subst hkj
    rw [ho'] at ho
    cases ho
    exact getD_set_true (hall e he hb)
  · have : isL listed k := by unfold isL at hk ⊢; rwa [getD_set_ne false hkj] at hk
    exact getD_set_true (h k o this ho e he hb)

/-- What an operation did in the text's order. -/
inductive Rec where
  | skip
  | val (v : Value)
  | load (b off : Nat) (cs : List Value) (v : Value)
  | make (x : Blk2) (fm : Nat → Value)
  | eff (v : Value)
def Rec.isE : Rec → Bool | .eff _ => true | _ => false
def Rec.isM : Rec → Bool | .make _ _ => true | _ => false
def Rec.value (σ : Mem) : Rec → Value
  | .skip => undef
  | .val v | .load _ _ _ v | .eff v => v
  | .make _ fm => fm σ.next

/-- The record of the text's order. -/
structure Run (G : Nat) (P : Program) (ops : Array Oper) (ta : Nat → Value) (nt : Nat) where
  did : Nat → Rec
  mem : Nat → Mem
  wr : Nat → Option Nat
namespace Run
variable {ops : Array Oper} {ta : Nat → Value} {nt : Nat} (R : Run G P ops ta nt)
def val (i : Nat) : Value := (R.did i).value (R.mem i)
/-- The temporaries ahead of operation j. -/
def tm (j : Nat) : Nat → Value := fun t => match R.wr t with | some i => if i < j then R.val i else ta t | none => ta t
/-- The temporaries when just these have been carried out. -/
def cur (listed : Array Bool) : Nat → Value := fun t => match R.wr t with | some i => if isL listed i then R.val i else ta t | none => ta t
/-- Is the operation carried out? -/
def wanted (j : Nat) (o : Oper) : Bool := match o.guard with
  | none => true
  | some (g, want) => match (ops[g]?).bind (·.dst) with
    | some d => match R.tm j d with | .bool b => b == want | _ => false
    | none => false
/-- J is an operation with an effect, or the end: a stage. -/
def Stage (J : Nat) : Prop := J = ops.size ∨ (J < ops.size ∧ (R.did J).isE = true)
/-- Operation j may come up while J is the next effect. -/
def Meets (j J : Nat) : Prop := R.Stage J ∧ (∀ e, e < J → (R.did e).isE = true → ¬ Pre ops j e) ∧ (∀ e, e < ops.size → (R.did e).isE = true → Pre ops e j → e < J)
/-- What lies under b while J is the next effect. -/
noncomputable def at_ (J b : Nat) : Option Blk2 :=
  if b < (R.mem J).next then (R.mem J).get b
  else if h : ∃ i, i < ops.size ∧ (R.did i).isM = true ∧ (R.mem i).next = b then (match R.did (Classical.choose h) with | .make x _ => some x | _ => none) else none

/-- The checks. -/
structure Ok : Prop where
  wr_iff : ∀ (t i : Nat), R.wr t = some i ↔ ∃ o : Oper, ops[i]? = some o ∧ o.dst = some t
  edge : ∀ (j : Nat) (o : Oper), ops[j]? = some o → ∀ e ∈ o.after, Region.binds .any e = true → e.on < j
  look : ∀ (j : Nat) (o : Oper) (t i : Nat), ops[j]? = some o → t ∈ o.looksAt ops → R.wr t = some i → (i < j → Pre ops i j) ∧ (j < i → Pre ops j i)
  dst : ∀ (j : Nat) (o : Oper) (d : Nat), ops[j]? = some o → o.dst = some d → d < nt
  grd : ∀ (j : Nat) (o : Oper) (g : Nat) (w : Bool), ops[j]? = some o → o.guard = some (g, w) → ∃ (og : Oper) (d : Nat), ops[g]? = some og ∧ og.dst = some d ∧ g < j
  ord : ∀ i j, i < j → j < ops.size → (R.did i).isE = true → (R.did j).isE = true → Pre ops i j
  low : G ≤ (R.mem 0).next
  cst : ∀ (j : Nat) (o : Oper) (v : Value), ops[j]? = some o → Operand.const v ∈ o.op.operands → ∀ μ, VRel μ v v
  glb : ∀ (j : Nat) (o : Oper) (g : Nat), ops[j]? = some o → Operand.global g ∈ o.op.operands → g < G ∧ g < 64
  op : ∀ (j : Nat) (o : Oper), ops[j]? = some o → (R.wanted j o = false ∧ R.did j = .skip ∧ R.mem (j + 1) = R.mem j) ∨ (R.wanted j o = true ∧ match R.did j with
    | .skip => False
    | .val v => VOp P o (oper2 (R.tm j)) v ∧ R.mem (j + 1) = R.mem j
    | .load b off cs v => LOp P o (oper2 (R.tm j)) b off cs v ∧ R.mem (j + 1) = R.mem j ∧ (∀ μ ρc, ORel μ (oper2 (R.tm j)) ρc o.op.operands → ∃ bi, μ b = some bi) ∧ b < (R.mem j).next ∧
        ∀ J, R.Meets j J → ∃ r, R.at_ J b = some (.row r) ∧ ∀ (i : Nat) v, cs[i]? = some v → r.cs[off + i]? = some v
    | .make x fm => AOp P o (oper2 (R.tm j)) x fm ∧ R.mem (j + 1) = (R.mem j).push x ∧ ∀ J, j < J → R.Meets j J → (R.mem J).get (R.mem j).next = some x
    | .eff v => EOp G P o (oper2 (R.tm j)) (R.mem j) v (R.mem (j + 1)))
end Run

section
variable {ops : Array Oper} {ta : Nat → Value} {nt : Nat} {R : Run G P ops ta nt}
theorem Run.Ok.next_le (h : R.Ok) (j : Nat) (hj : j < ops.size) : (R.mem j).next ≤ (R.mem (j + 1)).next := by
  have ho : ops[j]? = some ops[j] := by simp [hj]
  rcases h.op j _ ho with ⟨_, _, e⟩ | ⟨_, e⟩
  · rw [e]; exact Nat.le_refl _
  · cases hr : R.did j <;> rw [hr] at e <;> simp only at e
    · rw [e.2]; exact Nat.le_refl _
    · rw [e.2.1]; exact Nat.le_refl _
    · rw [e.2.1]; simp [Mem.push]
    · exact e.1
theorem Run.Ok.mono (h : R.Ok) {i j : Nat} (hij : i ≤ j) (hj : j ≤ ops.size) : (R.mem i).next ≤ (R.mem j).next := by
  induction j with
  | zero => obtain rfl : i = 0 := by omega
            exact Nat.le_refl _
  | succ j ih =>
    rcases Nat.lt_or_ge i (j + 1) with h1 | h1
    · exact Nat.le_trans (ih (by omega) (by omega)) (h.next_le j (by omega))
    · obtain rfl : i = j + 1 := by omega
      exact Nat.le_refl _
theorem Run.Ok.make_lt (h : R.Ok) {i : Nat} (hi : i < ops.size) (hm : (R.did i).isM = true) : (R.mem (i + 1)).next = (R.mem i).next + 1 := by
  have ho : ops[i]? = some ops[i] := by simp [hi]
  rcases h.op i _ ho with ⟨_, e, _⟩ | ⟨_, e⟩
  · rw [e] at hm; cases hm
  · cases hr : R.did i <;> rw [hr] at e hm <;> simp only [Rec.isM] at e hm <;> first | cases hm | skip
    rw [e.2.1]; simp [Mem.push]
theorem Run.Ok.id_inj (h : R.Ok) {i j : Nat} (hi : i < ops.size) (hj : j < ops.size) (mi : (R.did i).isM = true) (mj : (R.did j).isM = true) (e : (R.mem i).next = (R.mem j).next) : i = j := by
  rcases Nat.lt_trichotomy i j with h1 | h1 | h1
  · have := h.make_lt hi mi
    have := h.mono (i := i + 1) (j := j) (by omega) (by omega)
    omega
  · exact h1
  · have := h.make_lt hj mj
    have := h.mono (i := j + 1) (j := i) (by omega) (by omega)
    omega
/-- Between two effects nothing that lies there turns. -/
theorem Run.Ok.calm (h : R.Ok) {i j : Nat} (hij : i ≤ j) (hj : j ≤ ops.size) (he : ∀ k, i ≤ k → k < j → (R.did k).isE = false) (b : Nat) :
    (b < (R.mem i).next → (R.mem j).get b = (R.mem i).get b) ∧ ((R.mem i).next ≤ b → b < (R.mem j).next → ∃ k x fm, i ≤ k ∧ k < j ∧ R.did k = .make x fm ∧ (R.mem k).next = b ∧ (R.mem j).get b = some x) := by
  induction j with
  | zero => obtain rfl : i = 0 := by omega
            exact ⟨fun _ => rfl, fun h1 h2 => absurd h1 (by omega)⟩
  | succ j ih =>
    rcases Nat.lt_or_ge i (j + 1) with h1 | h1
    · obtain ⟨ih1, ih2⟩ := ih (by omega) (by omega) (fun k a c => he k a (by omega))
      have hnot := he j (by omega) (by omega)
      have ho : ops[j]? = some ops[j] := by simp [show j < ops.size by omega]
      have same : R.mem (j + 1) = R.mem j ∨ ∃ x fm, R.did j = .make x fm ∧ R.mem (j + 1) = (R.mem j).push x := by
        rcases h.op j _ ho with ⟨_, _, e⟩ | ⟨_, e⟩
        · exact .inl e
        · cases hr : R.did j <;> rw [hr] at e hnot <;> simp only [Rec.isE] at e hnot
          · exact .inl e.2
          · exact .inl e.2.1
          · exact .inr ⟨_, _, rfl, e.2.1⟩
          · cases hnot
      rcases same with e | ⟨x, fm, hr, e⟩
      · rw [e]
        refine ⟨ih1, fun a c => ?_⟩
        obtain ⟨k, x, fm, p, q, r⟩ := ih2 a c
        exact ⟨k, x, fm, p, by omega, r⟩
      · rw [e, Mem.push_get]
        have hm := h.mono (i := i) (j := j) (by omega) (by omega)
        refine ⟨fun a => ?_, fun a c => ?_⟩
        · rw [if_neg (by omega)]; exact ih1 a
        · by_cases hb : b = (R.mem j).next
          · exact ⟨j, x, fm, by omega, by omega, hr, hb.symm, by simp [hb]⟩
          · simp only [Mem.push] at c
            obtain ⟨k, x, fm, p, q, r, s, u⟩ := ih2 a (by omega)
            exact ⟨k, x, fm, p, by omega, r, s, by rw [if_neg hb]; exact u⟩
    · obtain rfl : i = j + 1 := by omega
      exact ⟨fun _ => rfl, fun a c => absurd a (by omega)⟩

/-- A make that has not come up. -/
def Late (R : Run G P ops ta nt) (listed : Array Bool) (b : Nat) : Prop := ∃ i, i < ops.size ∧ (R.did i).isM = true ∧ (R.mem i).next = b ∧ ¬ isL listed i
/-- The second memory when just these have been carried out. -/
noncomputable def memD (R : Run G P ops ta nt) (J : Nat) (listed : Array Bool) : Mem := ⟨fun b => if Late R listed b then none else R.at_ J b, (R.mem ops.size).next⟩
theorem memD_get (h : R.Ok) {J : Nat} (hJ : J ≤ ops.size) (listed : Array Bool) (b : Nat) : (memD R J listed).get b = if Late R listed b then none else R.at_ J b := by
  unfold Mem.get memD
  simp only
  split
  · rfl
  · rename_i hb
    split
    · rfl
    · unfold Run.at_
      have := h.mono hJ (Nat.le_refl _)
      rw [if_neg (by omega), dif_neg]
      rintro ⟨i, hi, hm, he⟩
      have := h.make_lt hi hm
      have := h.mono (i := i + 1) (j := ops.size) (by omega) (Nat.le_refl _)
      omega
theorem at_make (h : R.Ok) {J i : Nat} {x : Blk2} {fm : Nat → Value} (hi : i < ops.size) (hr : R.did i = .make x fm) (hb : (R.mem J).next ≤ (R.mem i).next) : R.at_ J (R.mem i).next = some x := by
  have ex : ∃ k, k < ops.size ∧ (R.did k).isM = true ∧ (R.mem k).next = (R.mem i).next := ⟨i, hi, by rw [hr]; rfl, rfl⟩
  unfold Run.at_
  rw [if_neg (by omega), dif_pos ex]
  have hc := Classical.choose_spec ex
  have : Classical.choose ex = i := h.id_inj hc.1 hi hc.2.1 (by rw [hr]; rfl) hc.2.2
  rw [this, hr]
theorem at_new (_h : R.Ok) {J b : Nat} {x : Blk2} (hb : (R.mem J).next ≤ b) (hx : R.at_ J b = some x) : ∃ i fm, i < ops.size ∧ R.did i = .make x fm ∧ (R.mem i).next = b := by
  unfold Run.at_ at hx
  rw [if_neg (by omega)] at hx
  split at hx
  · rename_i ex
    have hc := Classical.choose_spec ex
    split at hx
    · rename_i y fm hr
      cases hx
      exact ⟨_, fm, hc.1, hr, hc.2.2⟩
    · cases hx
  · cases hx
end
end Go.Proofs.YthemeeiedlbhkaaGreatDoor
