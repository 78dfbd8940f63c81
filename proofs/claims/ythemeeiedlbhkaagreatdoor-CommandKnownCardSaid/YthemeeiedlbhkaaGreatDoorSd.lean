/-
  The rule for a region whose order is open. Over any program. Conditions: none.
-/
import Derived.Test.YthemeeiedlbhkaaGreatDoorSc
namespace Go.Proofs.YthemeeiedlbhkaaGreatDoor
open Classical
variable {P : Program} {G : Nat} {ops : Array Oper} {ta : Nat → Value} {nt : Nat}

structure Inv (R : Run G P ops ta nt) (μ0 : Mu) (w0 : World) (df : List Deferred) (listed : Array Bool) (J : Nat) (μ : Mu) (a : Act) (w : World) : Prop where
  dn : Dn ops listed
  sz : listed.size = ops.size
  df : a.defers = df
  le : J ≤ ops.size
  before : ∀ i, i < J → (R.did i).isE = true → isL listed i
  stage : J = ops.size ∨ (J < ops.size ∧ (R.did J).isE = true ∧ ¬ isL listed J)
  tr : TRel μ nt (R.cur listed) a.tmps
  stp : Stp G (R.mem 0) μ0 w0 (memD R J listed) μ w
  late : ∀ b, Late R listed b → μ b = none
  early : ∀ b bi, (R.mem J).next ≤ b → b < (R.mem ops.size).next → μ b = some bi → ∃ i, i < ops.size ∧ (R.did i).isM = true ∧ (R.mem i).next = b ∧ isL listed i

variable {R : Run G P ops ta nt} {μ0 μ : Mu} {w0 w : World} {df : List Deferred} {listed : Array Bool} {J : Nat} {a : Act}

theorem lt_of_isL {listed : Array Bool} {i : Nat} (h : isL listed i) : i < listed.size := by
  rcases Nat.lt_or_ge i listed.size with h' | h'
  · exact h'
  · unfold isL at h; simp [Array.getElem?_eq_none h'] at h
theorem not_isL_of_ready {j : Nat} (hr : j ∈ Region.ready .any ops listed) : ¬ isL listed j := fun h => by
  have h0 := (mem_ready.1 hr).1
  have := lt_of_isL h
  unfold isL at h
  simp [this] at h h0
  rw [h0] at h
  cases h
theorem isL_set {j k : Nat} (hj : j < listed.size) : isL (listed.setIfInBounds j true) k ↔ k = j ∨ isL listed k := by
  by_cases h : j = k
  · subst h; simp [isL, hj]
  · unfold isL; rw [getD_set_ne false h]; constructor
    · exact .inr
    · rintro (h' | h'); exact absurd h'.symm h; exact h'
/-- While J is next, no later effect has come up. -/
theorem Inv.after (I : Inv R μ0 w0 df listed J μ a w) (h : R.Ok) {e : Nat} (he : e < ops.size) (hE : (R.did e).isE = true) (hJ : J ≤ e) : ¬ isL listed e := by
  rcases I.stage with hs | ⟨h1, h2, h3⟩
  · omega
  · intro hl
    rcases Nat.lt_or_ge J e with h4 | h4
    · exact h3 (I.dn.pre (h.ord J e h4 he h2 hE) hl)
    · obtain rfl : e = J := by omega
      exact h3 hl
theorem Inv.meets (I : Inv R μ0 w0 df listed J μ a w) (h : R.Ok) {j : Nat} (hr : j ∈ Region.ready .any ops listed) : R.Meets j J := by
  refine ⟨I.stage.imp id fun ⟨a, b, _⟩ => ⟨a, b⟩, fun e he hE hp => not_isL_of_ready hr (I.dn.pre hp (I.before e he hE)), fun e he hE hp => ?_⟩
  rcases Nat.lt_or_ge e J with h1 | h1
  · exact h1
  · exact absurd (I.dn.ready hr hp) (I.after h he hE h1)
/-- What operation j looks at reads as in the text's order. -/
theorem Inv.looks (I : Inv R μ0 w0 df listed J μ a w) (h : R.Ok) {j : Nat} {o : Oper} (hr : j ∈ Region.ready .any ops listed) (ho : ops[j]? = some o) {t : Nat} (ht : t ∈ o.looksAt ops) : R.cur listed t = R.tm j t := by
  unfold Run.cur Run.tm
  cases hw : R.wr t with
  | none => rfl
  | some i =>
    obtain ⟨h1, h2⟩ := h.look j o t i ho ht hw
    simp only
    rcases Nat.lt_trichotomy i j with h3 | h3 | h3
    · rw [if_pos (I.dn.ready hr (h1 h3)), if_pos h3]
    · subst h3; rw [if_neg (not_isL_of_ready hr), if_neg (by omega)]
    · rw [if_neg (fun hl => not_isL_of_ready hr (I.dn.pre (h2 h3) hl)), if_neg (by omega)]
theorem Inv.orel (I : Inv R μ0 w0 df listed J μ a w) (h : R.Ok) {j : Nat} {o : Oper} (hr : j ∈ Region.ready .any ops listed) (ho : ops[j]? = some o) : ORel μ (oper2 (R.tm j)) a.eval o.op.operands := fun x hx => by
  cases x with
  | tmp t =>
    have hl := I.looks h hr ho (t := t) (List.mem_append_left _ (List.mem_filterMap.2 ⟨.tmp t, by simpa using hx, rfl⟩))
    have := I.tr.2 t
    rw [hl] at this
    exact this
  | const v => exact h.cst j o v ho hx μ
  | global g =>
    obtain ⟨bi, h1, h23⟩ := I.stp.sim.glob g (h.glb j o g ho hx).1
    obtain ⟨h2, h3⟩ := h23 (h.glb j o g ho hx).2
    have := VRel.ptr (μ := μ) g 0 bi h1
    rw [h2, h3] at this
    exact this
  | func f => exact .func _ _ _ _ _ rfl rfl (by simp) rfl (by simp)
theorem VRel.bool_iff {μ : Mu} {v v' : Value} (h : VRel μ v v') (b : Bool) : v' = .bool b ↔ v = .bool b := by
  cases h <;> simp
theorem Inv.wanted (I : Inv R μ0 w0 df listed J μ a w) (h : R.Ok) {j : Nat} {o : Oper} (hr : j ∈ Region.ready .any ops listed) (ho : ops[j]? = some o) : Region.wanted o (yielded ops a.tmps) = R.wanted j o := by
  unfold Region.wanted Run.wanted
  cases hg : o.guard with
  | none => rfl
  | some gw =>
    obtain ⟨g, want⟩ := gw
    obtain ⟨og, d, h1, h2, _⟩ := h.grd j o g want ho hg
    have hd : (ops[g]?).bind (·.dst) = some d := by rw [h1]; exact h2
    have hl := I.looks h hr ho (t := d) (by unfold Oper.looksAt; rw [hg]; simp [hd])
    have hv := I.tr.2 d
    rw [hl] at hv
    have hlt : d < a.tmps.size := by rw [I.tr.1]; exact h.dst g og d h1 h2
    simp only [yielded, hd, Option.bind_some]
    have hget : a.tmps[d]? = some (a.tmps.getD d undef) := by simp [hlt]
    rw [hget]
    generalize a.tmps.getD d undef = y at hv
    generalize R.tm j d = z at hv
    cases hv with
    | flat _ => cases y <;> first | rfl | (simp; done)
    | _ => first | rfl | (simp; done)
/-- One operation more in the temporaries. -/
theorem cur_set (h : R.Ok) (hsz : listed.size = ops.size) {j : Nat} {o : Oper} (ho : ops[j]? = some o) :
    R.cur (listed.setIfInBounds j true) = match o.dst with | some d => upd (R.cur listed) d (R.val j) | none => R.cur listed := by
  have hj : j < listed.size := by rw [hsz]; exact (Array.getElem?_eq_some_iff.1 ho).1
  funext t
  unfold Run.cur
  cases hw : R.wr t with
  | none =>
    cases hd : o.dst with
    | none => simp [hw]
    | some d =>
      have : t ≠ d := fun e => by
        have := (h.wr_iff t j).2 ⟨o, ho, by rw [e]; exact hd⟩
        rw [hw] at this; cases this
      simp [upd, this, hw]
  | some i =>
    have hi := (h.wr_iff t i).1 hw
    obtain ⟨oi, hoi, hdi⟩ := hi
    by_cases hij : i = j
    · subst hij
      rw [ho] at hoi
      cases hoi
      simp [hdi, upd, isL_set hj]
    · have hne : o.dst ≠ some t := fun e => by
        have := (h.wr_iff t j).2 ⟨o, ho, e⟩
        rw [hw] at this
        cases this
        exact hij rfl
      simp only [isL_set hj, hij, false_or]
      cases hd : o.dst with
      | none => simp [hw]
      | some d =>
        have : t ≠ d := fun e => hne (by rw [e]; exact hd)
        simp [upd, this, hw]
theorem TRel.put_cur (h : R.Ok) (hsz : listed.size = ops.size) {j : Nat} {o : Oper} (ho : ops[j]? = some o) {μ : Mu} (ht : TRel μ nt (R.cur listed) a.tmps) {vc : Value} (hv : VRel μ (R.val j) vc) :
    TRel μ nt (R.cur (listed.setIfInBounds j true)) (a.put o.dst vc).tmps := by
  rw [cur_set h hsz ho]
  cases hd : o.dst with
  | none => exact ht
  | some d => exact ht.put (h.dst j o d ho hd) hv
theorem late_set {j : Nat} (hj : j < listed.size) {b : Nat} : Late R (listed.setIfInBounds j true) b ↔ ∃ i, i < ops.size ∧ (R.did i).isM = true ∧ (R.mem i).next = b ∧ i ≠ j ∧ ¬ isL listed i := by
  unfold Late
  simp only [isL_set hj, not_or]
theorem memD_calm (h : R.Ok) (hJ : J ≤ ops.size) {j : Nat} (hj : j < listed.size) (hM : (R.did j).isM = false) (b : Nat) : (memD R J (listed.setIfInBounds j true)).get b = (memD R J listed).get b := by
  rw [memD_get h hJ, memD_get h hJ]
  have : Late R (listed.setIfInBounds j true) b ↔ Late R listed b := by
    rw [late_set hj]
    constructor
    · rintro ⟨i, h1, h2, h3, _, h5⟩; exact ⟨i, h1, h2, h3, h5⟩
    · rintro ⟨i, h1, h2, h3, h5⟩
      exact ⟨i, h1, h2, h3, (fun e => by rw [e, hM] at h2; cases h2), h5⟩
  by_cases hl : Late R listed b
  · rw [if_pos hl, if_pos (this.2 hl)]
  · rw [if_neg hl, if_neg (fun x => hl (this.1 x))]
theorem Stp.congr {σ σ' σ2 : Mem} {μ μ' : Mu} {w w' : World} (h : Stp G σ μ w σ' μ' w') (hn : σ2.next = σ'.next) (hg : ∀ b, σ2.get b = σ'.get b) : Stp G σ μ w σ2 μ' w' :=
  ⟨by rw [hn]; exact h.next, by rw [hn]; exact h.fresh, by rw [hn]; exact h.ext, ⟨h.sim.glob, fun b x bi hx => h.sim.blk b x bi (by rw [← hg]; exact hx), fun b b' x x' bi bi' hx hx' => h.sim.inj b b' x x' bi bi' (by rw [← hg]; exact hx) (by rw [← hg]; exact hx'), fun b x bi hG hx => h.sim.rw_ b x bi hG (by rw [← hg]; exact hx)⟩,
   h.size, h.os, h.tape, h.output, h.keep, fun b x bi hb hx => h.new b x bi hb (by rw [← hg]; exact hx), fun b x hb hx => h.live b x hb (by rw [← hg]; exact hx), h.low⟩
/-- An operation without an effect and without a make. -/
theorem Inv.calm (I : Inv R μ0 w0 df listed J μ a w) (h : R.Ok) {j : Nat} {o : Oper} (hr : j ∈ Region.ready .any ops listed) (ho : ops[j]? = some o) (hE : (R.did j).isE = false) (hM : (R.did j).isM = false) {vc : Value} (hv : VRel μ (R.val j) vc) :
    Inv R μ0 w0 df (listed.setIfInBounds j true) J μ (a.put o.dst vc) w := by
  have hj : j < listed.size := by rw [I.sz]; exact (Array.getElem?_eq_some_iff.1 ho).1
  refine ⟨I.dn.set hr, by simp [I.sz], ?_, I.le, fun i hi hE' => (isL_set hj).2 (.inr (I.before i hi hE')), ?_, TRel.put_cur h I.sz ho I.tr hv, I.stp.congr rfl (memD_calm h I.le hj hM), fun b hb => ?_, fun b bi h1 h2 h3 => ?_⟩
  · rw [← I.df]; cases o.dst <;> rfl
  · rcases I.stage with h1 | ⟨h1, h2, h3⟩
    · exact .inl h1
    · refine .inr ⟨h1, h2, fun hl => ?_⟩
      rcases (isL_set hj).1 hl with e | e
      · rw [e, hE] at h2; cases h2
      · exact h3 e
  · refine I.late b ?_
    obtain ⟨i, h1, h2, h3, _, h5⟩ := (late_set hj).1 hb
    exact ⟨i, h1, h2, h3, h5⟩
  · obtain ⟨i, g1, g2, g3, g4⟩ := I.early b bi h1 h2 h3
    exact ⟨i, g1, g2, g3, (isL_set hj).2 (.inr g4)⟩
/-- A make. -/
theorem Inv.make (I : Inv R μ0 w0 df listed J μ a w) (h : R.Ok) {j : Nat} {o : Oper} (hr : j ∈ Region.ready .any ops listed) (ho : ops[j]? = some o) {x : Blk2} {fm : Nat → Value} (hd : R.did j = .make x fm)
    (hs : ∀ J, j < J → R.Meets j J → (R.mem J).get (R.mem j).next = some x) (hv : ∀ μ b bi, μ b = some bi → bi.sh = 0 → VRel μ (fm b) (fm bi.blk)) {ob : Obj} (hob : ObjRel μ x ob) :
    Inv R μ0 w0 df (listed.setIfInBounds j true) J (μ.add (R.mem j).next ⟨w.heap.size, 0, x.len, 0, 1⟩) (a.put o.dst (fm w.heap.size)) (w.alloc ob) := by
  have hjn : j < ops.size := (Array.getElem?_eq_some_iff.1 ho).1
  have hj : j < listed.size := by rw [I.sz]; exact hjn
  have hMj : (R.did j).isM = true := by rw [hd]; rfl
  have hlate : Late R listed (R.mem j).next := ⟨j, hjn, hMj, rfl, not_isL_of_ready hr⟩
  have hm : μ (R.mem j).next = none := I.late _ hlate
  have hJj : J ≠ j := by
    rintro rfl
    rcases I.stage with h1 | ⟨_, h2, _⟩
    · omega
    · rw [hd] at h2; cases h2
  have hlt := h.make_lt hjn hMj
  have hle := h.mono (i := j + 1) (j := ops.size) (by omega) (Nat.le_refl _)
  have hx : R.at_ J (R.mem j).next = some x := by
    rcases Nat.lt_or_ge J j with h1 | h1
    · exact at_make h hjn hd (h.mono (by omega) (by omega))
    · have h2 := hs J (by omega) (I.meets h hr)
      unfold Run.at_
      rw [if_pos (Mem.lt h2), h2]
  have hne : ∀ b, b ≠ (R.mem j).next → (Late R (listed.setIfInBounds j true) b ↔ Late R listed b) := fun b hb => by
    rw [late_set hj]
    constructor
    · rintro ⟨i, h1, h2, h3, _, h5⟩; exact ⟨i, h1, h2, h3, h5⟩
    · rintro ⟨i, h1, h2, h3, h5⟩
      exact ⟨i, h1, h2, h3, (fun e => hb (by rw [← h3, e])), h5⟩
  have hgone : ¬ Late R (listed.setIfInBounds j true) (R.mem j).next := by
    rw [late_set hj]
    rintro ⟨i, h1, h2, h3, h4, _⟩
    exact h4 (h.id_inj h1 hjn h2 hMj h3)
  have hext := Mu.add_ext ⟨w.heap.size, 0, x.len, 0, 1⟩ hm
  refine ⟨I.dn.set hr, by simp [I.sz], ?_, I.le, fun i hi hE' => (isL_set hj).2 (.inr (I.before i hi hE')), ?_, TRel.put_cur h I.sz ho (I.tr.ext hext) ?_, ?_, fun b hb => ?_, fun b bi h1 h2 h3 => ?_⟩
  · rw [← I.df]; cases o.dst <;> rfl
  · rcases I.stage with h1 | ⟨h1, h2, h3⟩
    · exact .inl h1
    · refine .inr ⟨h1, h2, fun hl => ?_⟩
      rcases (isL_set hj).1 hl with e | e
      · exact hJj e
      · exact h3 e
  · unfold Run.val; rw [hd]
    exact hv _ _ _ (Mu.add_at _ _ _) rfl
  · refine I.stp.more (σ' := memD R J (listed.setIfInBounds j true)) (h.mono (Nat.zero_le _) (by omega)) ?_ hm (Nat.le_refl _) (fun b h1 h2 => absurd h1 (by simp only [memD] at h2 ⊢; omega)) (by simp only [memD]; omega) hob fun b => ?_
    · rw [memD_get h I.le, if_pos hlate]
    · rw [memD_get h I.le, memD_get h I.le]
      by_cases hb : b = (R.mem j).next
      · rw [hb, if_neg hgone, if_pos rfl, hx]
      · rw [if_neg hb]
        by_cases hl : Late R listed b
        · rw [if_pos hl, if_pos ((hne b hb).2 hl)]
        · rw [if_neg hl, if_neg (fun y => hl ((hne b hb).1 y))]
  · by_cases e : b = (R.mem j).next
    · exact absurd (e ▸ hb) hgone
    · simp only [Mu.add, e, if_false]
      exact I.late b ((hne b e).1 hb)
  · by_cases e : b = (R.mem j).next
    · exact ⟨j, hjn, hMj, e.symm, (isL_set hj).2 (.inl rfl)⟩
    · simp only [Mu.add, e, if_false] at h3
      obtain ⟨i, g1, g2, g3, g4⟩ := I.early b bi h1 h2 h3
      exact ⟨i, g1, g2, g3, (isL_set hj).2 (.inr g4)⟩
/-- The next stage. -/
theorem next_stage (R : Run G P ops ta nt) (J : Nat) (hJ : J < ops.size) : ∃ J2, J < J2 ∧ J2 ≤ ops.size ∧ (∀ k, J < k → k < J2 → (R.did k).isE = false) ∧ (J2 = ops.size ∨ (J2 < ops.size ∧ (R.did J2).isE = true)) := by
  have key : ∀ n, ∀ k, J < k → k ≤ ops.size → ops.size - k = n → (∀ i, J < i → i < k → (R.did i).isE = false) → ∃ J2, J < J2 ∧ J2 ≤ ops.size ∧ (∀ k, J < k → k < J2 → (R.did k).isE = false) ∧ (J2 = ops.size ∨ (J2 < ops.size ∧ (R.did J2).isE = true)) := by
    intro n
    induction n with
    | zero => intro k h1 h2 h3 h4; exact ⟨k, h1, h2, h4, .inl (by omega)⟩
    | succ n ih =>
      intro k h1 h2 h3 h4
      cases he : (R.did k).isE with
      | true => exact ⟨k, h1, h2, h4, .inr ⟨by omega, he⟩⟩
      | false =>
        refine ih (k + 1) (by omega) (by omega) (by omega) fun i hi hk => ?_
        rcases Nat.lt_or_ge i k with h5 | h5
        · exact h4 i hi h5
        · obtain rfl : i = k := by omega
          exact he
  exact key _ (J + 1) (by omega) (by omega) rfl fun i h1 h2 => by omega
/-- What is mapped and lies there at stage J is what the text's order has there. -/
theorem Inv.sim (I : Inv R μ0 w0 df listed J μ a w) (h : R.Ok) : Sim G μ (R.mem J) w := by
  have key : ∀ b x bi, (R.mem J).get b = some x → μ b = some bi → (memD R J listed).get b = some x := fun b x bi hx hm => by
    rw [memD_get h I.le, if_neg (fun hl => by rw [I.late b hl] at hm; cases hm)]
    unfold Run.at_
    rw [if_pos (Mem.lt hx)]
    exact hx
  exact ⟨I.stp.sim.glob, fun b x bi hx hm => I.stp.sim.blk b x bi (key b x bi hx hm) hm, fun b b' x x' bi bi' hx hx' hm hm' e => I.stp.sim.inj b b' x x' bi bi' (key _ _ _ hx hm) (key _ _ _ hx' hm') hm hm' e, fun b x bi hG hx hm => I.stp.sim.rw_ b x bi hG (key _ _ _ hx hm) hm⟩
theorem Inv.fresh (I : Inv R μ0 w0 df listed J μ a w) (h : R.Ok) (hJ : J < ops.size) (hE : (R.did J).isE = true) : ∀ b, (R.mem J).next ≤ b → b < (R.mem (J + 1)).next → μ b = none := fun b h1 h2 => by
  cases hm : μ b with
  | none => rfl
  | some bi =>
    have h3 := h.mono (i := J + 1) (j := ops.size) (by omega) (Nat.le_refl _)
    obtain ⟨i, g1, g2, g3, g4⟩ := I.early b bi h1 (by omega) hm
    rcases Nat.lt_trichotomy i J with h4 | h4 | h4
    · have := h.make_lt g1 g2
      have := h.mono (i := i + 1) (j := J) (by omega) (by omega)
      omega
    · rw [h4] at g2
      cases hd : R.did J <;> rw [hd] at g2 hE <;> cases g2 <;> cases hE
    · have := h.mono (i := J + 1) (j := i) (by omega) (by omega)
      omega
/-- An effect. -/
theorem Inv.eff (I : Inv R μ0 w0 df listed J μ a w) (h : R.Ok) {o : Oper} (hr : J ∈ Region.ready .any ops listed) (ho : ops[J]? = some o) (hE : (R.did J).isE = true) {μ1 : Mu} {w1 : World} {vc : Value}
    (k : Stp G (R.mem J) μ w (R.mem (J + 1)) μ1 w1) (hv : VRel μ1 (R.val J) vc) : ∃ J2, Inv R μ0 w0 df (listed.setIfInBounds J true) J2 μ1 (a.put o.dst vc) w1 := by
  have hJn : J < ops.size := (Array.getElem?_eq_some_iff.1 ho).1
  have hj : J < listed.size := by rw [I.sz]; exact hJn
  have hM : (R.did J).isM = false := by cases hd : R.did J <;> rw [hd] at hE <;> first | rfl | cases hE
  obtain ⟨J2, b1, b2, b3, b4⟩ := next_stage R J hJn
  have hlate : ∀ b, Late R (listed.setIfInBounds J true) b ↔ Late R listed b := fun b => by
    rw [late_set hj]
    constructor
    · rintro ⟨i, h1, h2, h3, _, h5⟩; exact ⟨i, h1, h2, h3, h5⟩
    · rintro ⟨i, h1, h2, h3, h5⟩
      exact ⟨i, h1, h2, h3, (fun e => by rw [e, hM] at h2; cases h2), h5⟩
  have n1 := h.mono (i := J + 1) (j := J2) (by omega) b2
  have n2 := h.mono b2 (Nat.le_refl _)
  have n0 := h.next_le J hJn
  have cm := h.calm (i := J + 1) (j := J2) (by omega) b2 fun q h1 h2 => b3 q (by omega) h2
  -- an early make stands as it stood
  have early : ∀ b x bi, (R.mem (J + 1)).next ≤ b → (memD R J2 (listed.setIfInBounds J true)).get b = some x → μ1 b = some bi → μ b = some bi ∧ (memD R J listed).get b = some x := fun b x bi hb hx hm => by
    have hm0 : μ b = some bi := by rw [← k.ext b (.inr hb)]; exact hm
    refine ⟨hm0, ?_⟩
    have hnl : ¬ Late R listed b := fun hl => by rw [I.late b hl] at hm0; cases hm0
    rw [memD_get h b2, if_neg (fun hl => hnl ((hlate b).1 hl))] at hx
    rw [memD_get h I.le, if_neg hnl]
    rcases Nat.lt_or_ge b (R.mem J2).next with h1 | h1
    · obtain ⟨q, y, fm, q1, q2, q3, q4, q5⟩ := (cm b).2 hb h1
      unfold Run.at_ at hx
      rw [if_pos h1, q5] at hx
      cases hx
      rw [← q4]
      exact at_make h (by omega) q3 (by omega)
    · obtain ⟨i, fm, g1, g2, g3⟩ := at_new h h1 hx
      rw [← g3]
      exact at_make h g1 g2 (by omega)
  have old : ∀ b x bi, b < (R.mem (J + 1)).next → (memD R J2 (listed.setIfInBounds J true)).get b = some x → μ1 b = some bi → (R.mem (J + 1)).get b = some x := fun b x bi hb hx hm => by
    rw [memD_get h b2] at hx
    split at hx
    · cases hx
    · unfold Run.at_ at hx
      rw [if_pos (by omega), (cm b).1 hb] at hx
      exact hx
  -- a block that lies early is none of those that the effect may turn
  have apart : ∀ b x bi, (R.mem (J + 1)).next ≤ b → (memD R J listed).get b = some x → μ b = some bi → ∀ c y ci, (R.mem J).get c = some y → μ c = some ci → ci.blk ≠ bi.blk := fun b x bi hb hx hm c y ci hy hc e => by
    have h1 : (memD R J listed).get c = some y := by
      rw [memD_get h I.le, if_neg (fun hl => by rw [I.late c hl] at hc; cases hc)]
      unfold Run.at_
      rw [if_pos (Mem.lt hy)]
      exact hy
    have hGb : G ≤ b := Nat.le_trans (Nat.le_trans h.low (h.mono (i := 0) (j := J + 1) (Nat.zero_le _) hJn)) hb
    have := I.stp.sim.inj c b y x ci bi h1 hx hc hm e (.inr hGb)
    have := Mem.lt hy
    omega
  have stands : ∀ b x bi, (R.mem (J + 1)).next ≤ b → (memD R J listed).get b = some x → μ b = some bi → BlkIn w1 μ1 bi x := fun b x bi hb hx hm => by
    have := I.stp.sim.blk b x bi hx hm
    exact this.keep (k.keep _ this.lt fun c y ci _ hy hc => apart b x bi hb hx hm c y ci hy hc) k.extE
  have new1 : ∀ b x bi, b < (R.mem (J + 1)).next → (R.mem (J + 1)).get b = some x → μ1 b = some bi → w.heap.size ≤ bi.blk ∨ ∃ c y ci, (R.mem J).get c = some y ∧ μ c = some ci ∧ ci.blk = bi.blk := fun b x bi hb hx hm => by
    rcases Nat.lt_or_ge b (R.mem J).next with h1 | h1
    · obtain ⟨y, hy⟩ := k.live b x h1 hx
      exact .inr ⟨b, y, bi, hy, by rw [← k.ext b (.inl h1)]; exact hm, rfl⟩
    · rcases k.new b x bi h1 hx hm with h2 | ⟨c, y, ci, _, h3, h4, h5⟩
      · exact .inl h2
      · exact .inr ⟨c, y, ci, h3, h4, h5⟩
  have sim2 : Sim G μ1 (memD R J2 (listed.setIfInBounds J true)) w1 := by
    refine ⟨k.sim.glob, fun b x bi hx hm => ?_, fun b b' x x' bi bi' hx hx' hm hm' e => ?_, fun b x bi hG hx hm => ?_⟩
    · rcases Nat.lt_or_ge b (R.mem (J + 1)).next with h1 | h1
      · exact k.sim.blk b x bi (old b x bi h1 hx hm) hm
      · obtain ⟨h2, h3⟩ := early b x bi h1 hx hm
        exact stands b x bi h1 h3 h2
    · have mix : ∀ b b' x x' bi bi', (memD R J2 (listed.setIfInBounds J true)).get b = some x → (memD R J2 (listed.setIfInBounds J true)).get b' = some x' → μ1 b = some bi → μ1 b' = some bi' → bi.blk = bi'.blk → b < (R.mem (J + 1)).next → (R.mem (J + 1)).next ≤ b' → False := fun b b' x x' bi bi' hx hx' hm hm' e h1 h2 => by
        obtain ⟨g1, g2⟩ := early b' x' bi' h2 hx' hm'
        have hl := (I.stp.sim.blk b' x' bi' g2 g1).lt
        rcases new1 b x bi h1 (old b x bi h1 hx hm) hm with h3 | ⟨c, y, ci, h3, h4, h5⟩
        · omega
        · exact apart b' x' bi' h2 g2 g1 c y ci h3 h4 (by omega)
      rcases Nat.lt_or_ge b (R.mem (J + 1)).next with h1 | h1 <;> rcases Nat.lt_or_ge b' (R.mem (J + 1)).next with h2 | h2
      · exact k.sim.inj b b' x x' bi bi' (old _ _ _ h1 hx hm) (old _ _ _ h2 hx' hm') hm hm' e
      · exact (mix b b' x x' bi bi' hx hx' hm hm' e h1 h2).elim
      · exact (mix b' b x' x bi' bi hx' hx hm' hm e.symm h2 h1).elim
      · obtain ⟨g1, g2⟩ := early b x bi h1 hx hm
        obtain ⟨g3, g4⟩ := early b' x' bi' h2 hx' hm'
        exact I.stp.sim.inj b b' x x' bi bi' g2 g4 g1 g3 e
    · rcases Nat.lt_or_ge b (R.mem (J + 1)).next with h1 | h1
      · exact k.sim.rw_ b x bi hG (old b x bi h1 hx hm) hm
      · obtain ⟨h2, h3⟩ := early b x bi h1 hx hm
        exact I.stp.sim.rw_ b x bi hG h3 h2
  have n00 := h.mono (i := 0) (j := J) (Nat.zero_le _) I.le
  -- what lies at the start and is mapped there
  have start : ∀ c y ci, (R.mem J).get c = some y → μ c = some ci → (memD R J listed).get c = some y := fun c y ci hy hc => by
    rw [memD_get h I.le, if_neg (fun hl => by rw [I.late c hl] at hc; cases hc)]
    unfold Run.at_
    rw [if_pos (Mem.lt hy)]
    exact hy
  refine ⟨J2, I.dn.set hr, by simp [I.sz], ?_, b2, fun i hi hE' => ?_, ?_, TRel.put_cur h I.sz ho (I.tr.ext k.extE) hv, ?_, fun b hb => ?_, fun b bi h1 h2 h3 => ?_⟩
  · rw [← I.df]; cases o.dst <;> rfl
  · rcases Nat.lt_trichotomy i J with h1 | h1 | h1
    · exact (isL_set hj).2 (.inr (I.before i h1 hE'))
    · exact (isL_set hj).2 (.inl h1)
    · rw [b3 i h1 hi] at hE'; cases hE'
  · rcases b4 with h1 | ⟨h1, h2⟩
    · exact .inl h1
    · refine .inr ⟨h1, h2, fun hl => ?_⟩
      rcases (isL_set hj).1 hl with e | e
      · omega
      · exact I.after h h1 h2 (by omega) e
  · refine ⟨I.stp.next, I.stp.fresh, fun b hb => ?_, sim2, Nat.le_trans I.stp.size k.size, k.os.trans I.stp.os, k.tape.trans I.stp.tape, k.output.trans I.stp.output, fun B hB hk => ?_, fun b x bi hb hx hm => ?_, fun b x hb hx => ?_, I.stp.low⟩
    · have hb' : b < (R.mem 0).next ∨ (R.mem ops.size).next ≤ b := hb
      rw [k.ext b (by omega), I.stp.ext b hb]
    · refine (k.keep B (Nat.lt_of_lt_of_le hB I.stp.size) fun b x bi hG hx hm e => ?_).trans (I.stp.keep B hB hk)
      have hx' := start b x bi hx hm
      rcases Nat.lt_or_ge b (R.mem 0).next with h1 | h1
      · obtain ⟨y, hy⟩ := I.stp.live b x h1 hx'
        exact hk b y bi hG hy (by rw [← I.stp.ext b (.inl h1)]; exact hm) e
      · rcases I.stp.new b x bi h1 hx' hm with h2 | ⟨c, y, ci, g, h3, h4, h5⟩
        · omega
        · exact hk c y ci g h3 h4 (h5.trans e)
    · rcases Nat.lt_or_ge b (R.mem (J + 1)).next with h1 | h1
      · have hx1 := old b x bi h1 hx hm
        rcases Nat.lt_or_ge b (R.mem J).next with h2 | h2
        · obtain ⟨y, hy⟩ := k.live b x h2 hx1
          have hm' : μ b = some bi := by rw [← k.ext b (.inl h2)]; exact hm
          exact I.stp.new b y bi hb (start b y bi hy hm') hm'
        · rcases k.new b x bi h2 hx1 hm with h3 | ⟨c, y, ci, g, h3, h4, h5⟩
          · exact .inl (Nat.le_trans I.stp.size h3)
          · have hy' := start c y ci h3 h4
            rcases Nat.lt_or_ge c (R.mem 0).next with h6 | h6
            · obtain ⟨z, hz⟩ := I.stp.live c y h6 hy'
              exact .inr ⟨c, z, ci, g, hz, by rw [← I.stp.ext c (.inl h6)]; exact h4, h5⟩
            · rcases I.stp.new c y ci h6 hy' h4 with h7 | ⟨d, z, di, g', h7, h8, h9⟩
              · exact .inl (by omega)
              · exact .inr ⟨d, z, di, g', h7, h8, h9.trans h5⟩
      · obtain ⟨g1, g2⟩ := early b x bi h1 hx hm
        exact I.stp.new b x bi hb g2 g1
    · have h1 : b < (R.mem (J + 1)).next := by omega
      rw [memD_get h b2] at hx
      split at hx
      · cases hx
      · rename_i hnl
        unfold Run.at_ at hx
        rw [if_pos (by omega), (cm b).1 h1] at hx
        obtain ⟨y, hy⟩ := k.live b x (by omega) hx
        refine I.stp.live b y hb ?_
        rw [memD_get h I.le, if_neg (fun hl => hnl ((hlate b).2 hl))]
        unfold Run.at_
        rw [if_pos (by omega)]
        exact hy
  · have := I.late b ((hlate b).1 hb)
    obtain ⟨i, g1, g2, g3, g4⟩ := (hlate b).1 hb
    -- an id of a make is none of the effect's own
    have : b < (R.mem J).next ∨ (R.mem (J + 1)).next ≤ b := by
      rcases Nat.lt_trichotomy i J with h4 | h4 | h4
      · have := h.make_lt g1 g2
        have := h.mono (i := i + 1) (j := J) (by omega) (by omega)
        omega
      · rw [h4, hM] at g2; cases g2
      · have := h.mono (i := J + 1) (j := i) (by omega) (by omega)
        omega
    rw [k.ext b this]
    exact I.late b ((hlate b).1 hb)
  · have hm : μ b = some bi := by rw [← k.ext b (.inr (by omega))]; exact h3
    obtain ⟨i, g1, g2, g3, g4⟩ := I.early b bi (by omega) h2 hm
    exact ⟨i, g1, g2, g3, (isL_set hj).2 (.inr g4)⟩
def unl (listed : Array Bool) (n : Nat) : Nat := ((List.range n).filter fun i => !listed.getD i false).length
theorem filter_lt {l : List Nat} {p q : Nat → Bool} {j : Nat} (hj : j ∈ l) (hq : q j = true) (hp : p j = false) (hi : ∀ i, p i = true → q i = true) : (l.filter p).length < (l.filter q).length := by
  induction l with
  | nil => cases hj
  | cons x l ih =>
    have le : (l.filter p).length ≤ (l.filter q).length := by
      clear ih hj
      induction l with
      | nil => exact Nat.le_refl _
      | cons y l ih =>
        simp only [List.filter_cons]
        cases hpy : p y with
        | false =>
          simp only [Bool.false_eq_true, if_false]
          split
          · rw [List.length_cons]; omega
          · exact ih
        | true => simp only [hi y hpy, if_true, List.length_cons]; omega
    by_cases hx : x = j
    · subst hx
      simp only [List.filter_cons, hp, hq, if_true, Bool.false_eq_true, if_false, List.length_cons]
      omega
    · have ih := ih (by rcases List.mem_cons.1 hj with e | e; exact absurd e.symm hx; exact e)
      simp only [List.filter_cons]
      cases hpx : p x with
      | false =>
        simp only [Bool.false_eq_true, if_false]
        split
        · rw [List.length_cons]; omega
        · exact ih
      | true => simp only [hi x hpx, if_true, List.length_cons]; omega
theorem unl_set {listed : Array Bool} {n j : Nat} (hj : j < n) (hs : j < listed.size) (hn : ¬ isL listed j) : unl (listed.setIfInBounds j true) n < unl listed n := by
  unfold unl
  refine filter_lt (j := j) (List.mem_range.2 hj) ?_ ?_ fun i hi => ?_
  · unfold isL at hn; simpa using hn
  · simp [hs]
  · simp only [Bool.not_eq_true'] at hi ⊢
    cases h : listed.getD i false with
    | false => rfl
    | true => rw [getD_set_true h] at hi; cases hi
theorem all_listed {listed : Array Bool} (h : R.Ok) (hr : Region.ready .any ops listed = []) (hsz : listed.size = ops.size) : ∀ i, i < ops.size → isL listed i := by
  intro i
  induction i using Nat.strongRecOn with
  | _ i ih =>
    intro hi
    cases hl : listed.getD i false with
    | true => exact hl
    | false =>
      have hlt : i < listed.size := by omega
      have : i ∈ Region.ready .any ops listed := mem_ready.2 ⟨by simp [hlt] at hl ⊢; exact hl, ops[i], by simp [hi], fun e he hb => ih e.on (h.edge i _ (by simp [hi]) e he hb) (by have := h.edge i _ (by simp [hi]) e he hb; omega)⟩
      rw [hr] at this
      cases this
/-- The end. -/
theorem Inv.done (I : Inv R μ0 w0 df listed J μ a w) (h : R.Ok) (hall : ∀ i, i < ops.size → isL listed i) : Stp G (R.mem 0) μ0 w0 (R.mem ops.size) μ w ∧ TRel μ nt (R.tm ops.size) a.tmps := by
  have hJ : J = ops.size := by
    rcases I.stage with h1 | ⟨h1, _, h3⟩
    · exact h1
    · exact absurd (hall J h1) h3
  subst hJ
  refine ⟨I.stp.congr rfl fun b => ?_, ?_⟩
  · rw [memD_get h (Nat.le_refl _), if_neg]
    · unfold Run.at_
      split
      · rfl
      · rename_i hb
        rw [dif_neg]
        · unfold Mem.get; rw [if_neg hb]
        · rintro ⟨i, h1, h2, h3⟩
          have := h.make_lt h1 h2
          have := h.mono (i := i + 1) (j := ops.size) (by omega) (Nat.le_refl _)
          omega
    · rintro ⟨i, h1, _, _, h4⟩
      exact h4 (hall i h1)
  · have : R.cur listed = R.tm ops.size := by
      funext t
      unfold Run.cur Run.tm
      cases hw : R.wr t with
      | none => rfl
      | some i =>
        obtain ⟨o, ho, _⟩ := (h.wr_iff t i).1 hw
        have hi : i < ops.size := (Array.getElem?_eq_some_iff.1 ho).1
        simp only [if_pos (hall i hi), if_pos hi]
    rw [← this]
    exact I.tr
theorem region_any (h : R.Ok) (rd : Option Nat) {Q : Exit → Act → World → Prop} (hQ : ∀ (a' : Act) w' μ', a'.defers = df → Stp G (R.mem 0) μ0 w0 (R.mem ops.size) μ' w' → TRel μ' nt (R.tm ops.size) a'.tmps → Q .normal a' w') :
    ∀ (fuel : Nat) (listed : Array Bool) (J : Nat) (μ : Mu) (a : Act) (w : World), unl listed ops.size ≤ fuel → Inv R μ0 w0 df listed J μ a w → wpAnyIn (FW rd) 0 P .any ops Q fuel listed a w := by
  have fin : ∀ (listed : Array Bool) (J : Nat) (μ : Mu) (a : Act) (w : World), Inv R μ0 w0 df listed J μ a w → Region.ready .any ops listed = [] → Q .normal a w := fun listed J μ a w I hr => by
    obtain ⟨h1, h2⟩ := I.done h (all_listed h hr I.sz)
    exact hQ a w μ I.df h1 h2
  intro fuel
  induction fuel with
  | zero =>
    intro listed J μ a w hf I
    have hr : Region.ready .any ops listed = [] := by
      cases hc : Region.ready .any ops listed with
      | nil => rfl
      | cons j l =>
        have hj : j ∈ Region.ready .any ops listed := by rw [hc]; simp
        obtain ⟨_, o, ho, _⟩ := mem_ready.1 hj
        have hjn := (Array.getElem?_eq_some_iff.1 ho).1
        have := unl_set (n := ops.size) hjn (by rw [I.sz]; exact hjn) (not_isL_of_ready hj)
        omega
    exact ⟨hr, fin listed J μ a w I hr⟩
  | succ fuel ih =>
    intro listed J μ a w hf I
    refine ⟨fin listed J μ a w I, fun j hj => ?_⟩
    obtain ⟨_, o, ho, _⟩ := mem_ready.1 hj
    have hjn := (Array.getElem?_eq_some_iff.1 ho).1
    have hfl : unl (listed.setIfInBounds j true) ops.size ≤ fuel := by
      have := unl_set (n := ops.size) hjn (by rw [I.sz]; exact hjn) (not_isL_of_ready hj)
      omega
    unfold wpOpIn
    simp only [ho]
    rw [I.wanted h hj ho]
    rcases h.op j o ho with ⟨hw, hd, _⟩ | ⟨hw, hop⟩
    · simp only [hw, Bool.false_eq_true, if_false]
      refine ⟨fun _ _ => trivial, ih _ J μ _ w hfl (I.calm h hj ho (by rw [hd]; rfl) (by rw [hd]; rfl) ?_)⟩
      unfold Run.val; rw [hd]; exact VRel.undef μ
    · simp only [hw, if_true]
      have hor := I.orel h hj ho
      cases hd : R.did j with
      | skip => rw [hd] at hop; exact hop.elim
      | val v =>
        rw [hd] at hop
        obtain ⟨vc, hv, hrun⟩ := hop.1 μ a.eval hor
        refine wp_of_value (hrun w) (ih _ J μ _ w hfl (I.calm h hj ho (by rw [hd]; rfl) (by rw [hd]; rfl) ?_))
        unfold Run.val; rw [hd]; exact hv
      | load b off cs v =>
        rw [hd] at hop
        obtain ⟨h1, _, h3, h4, h5⟩ := hop
        obtain ⟨bi, hb⟩ := h3 μ a.eval hor
        obtain ⟨r, hr, hc⟩ := h5 J (I.meets h hj)
        have hget : (memD R J listed).get b = some (.row r) := by
          rw [memD_get h I.le, if_neg (fun hl => by rw [I.late b hl] at hb; cases hb)]
          exact hr
        obtain ⟨vc, hv, hrun⟩ := h1 μ a.eval w hor (CellsIn.of_row I.stp.sim hb hget hc)
        refine wp_of_value hrun (ih _ J μ _ w hfl (I.calm h hj ho (by rw [hd]; rfl) (by rw [hd]; rfl) ?_))
        unfold Run.val; rw [hd]; exact hv
      | make x fm =>
        rw [hd] at hop
        obtain ⟨h1, _, h3⟩ := hop
        obtain ⟨ob, hob, hrun⟩ := h1.2 μ a.eval w hor
        exact wp_of_value hrun (ih _ J _ _ _ hfl (I.make h hj ho hd h3 h1.1 hob))
      | eff v =>
        rw [hd] at hop
        have hE : (R.did j).isE = true := by rw [hd]; rfl
        have hjJ : j = J := by
          rcases Nat.lt_trichotomy j J with h1 | h1 | h1
          · exact absurd (I.before j h1 hE) (not_isL_of_ready hj)
          · exact h1
          · rcases I.stage with h2 | ⟨h2, h3, h4⟩
            · omega
            · exact absurd (I.dn.ready hj (h.ord J j h1 hjn h3 hE)) h4
        subst hjJ
        refine hop.2 μ w a (I.sim h) (Nat.le_trans h.low (h.mono (Nat.zero_le _) I.le)) (I.fresh h hjn hE) hor _ _ (fun vc w' μ' hst hv => ?_) rd
        obtain ⟨J2, I2⟩ := I.eff h hj ho hE hst (vc := vc) (by unfold Run.val; rw [hd]; exact hv)
        exact ih _ J2 μ' _ w' hfl I2
end Go.Proofs.YthemeeiedlbhkaaGreatDoor
