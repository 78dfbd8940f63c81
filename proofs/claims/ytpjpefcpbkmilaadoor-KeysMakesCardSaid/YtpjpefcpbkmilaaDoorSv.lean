/-
  Regions carried out in the text's order, as a relation: for values and memory that are not closed. Over any program. Conditions: none.
-/
import Derived.Test.YtpjpefcpbkmilaaDoorSr
namespace Go.Proofs.YtpjpefcpbkmilaaDoor
variable {P : Program} {G : Nat} {nt : Nat}

def putO (ta : Nat → Value) (d : Option Nat) (v : Value) : Nat → Value := match d with | some d => upd ta d v | none => ta
def dstOk (nt : Nat) : Option Nat → Bool
  | some d => Nat.blt d nt
  | none => true
/-- Operations of a region, one behind the other. -/
inductive RegR (G : Nat) (P : Program) (nt : Nat) (ops : Array Oper) : List Oper → (Nat → Value) → Mem → List (Rec × Mem) → (Nat → Value) → Mem → Prop
  | nil (ta : Nat → Value) (σ : Mem) : RegR G P nt ops [] ta σ [] ta σ
  | skip {o : Oper} {l : List Oper} {ta : Nat → Value} {σ : Mem} {rs : List (Rec × Mem)} {ta2 : Nat → Value} {σ2 : Mem} (hw : wantedT ops ta o = false) (hd : dstOk nt o.dst = true) (h : RegR G P nt ops l (putO ta o.dst undef) σ rs ta2 σ2) : RegR G P nt ops (o :: l) ta σ ((.skip, σ) :: rs) ta2 σ2
  | op {o : Oper} {l : List Oper} {ta : Nat → Value} {σ σ1 : Mem} {r : Rec} {rs : List (Rec × Mem)} {ta2 : Nat → Value} {σ2 : Mem} (hw : wantedT ops ta o = true) (hk : opndOk G o = true) (hr : r.Right G P o (oper2 ta) σ σ1) (hd : dstOk nt o.dst = true) (h : RegR G P nt ops l (putO ta o.dst (r.value σ)) σ1 rs ta2 σ2) : RegR G P nt ops (o :: l) ta σ ((r, σ) :: rs) ta2 σ2
variable {ops : Array Oper} {bf : List Nat}
theorem RegR.head {l : List Oper} {ta ta2 : Nat → Value} {e e2 : Mem} {rs : List (Rec × Mem)} (h : RegR G P nt ops l ta e rs ta2 e2) : (match rs with | [] => e2 = e | (_, e') :: _ => e' = e) ∧ rs.length = l.length := by
  induction h with
  | nil => exact ⟨rfl, rfl⟩
  | skip _ _ _ ih => exact ⟨rfl, by simp [ih.2]⟩
  | op _ _ _ _ _ ih => exact ⟨rfl, by simp [ih.2]⟩
def mkR (G : Nat) (P : Program) (ops : Array Oper) (ta : Nat → Value) (nt : Nat) (rs : List (Rec × Mem)) (e2 : Mem) : Run G P ops ta nt where
  did := fun j => match rs[j]? with | some (r, _) => r | none => .skip
  mem := fun j => match rs[j]? with | some (_, e) => e | none => e2
  wr := wrOf ops
def effR : List (Rec × Mem) → Nat → Nat
  | [], _ => 0
  | (r, _) :: l, j => (if r.isE then 2 ^ j else 0) ||| effR l (j + 1)
theorem effR_bit : ∀ (l : List (Rec × Mem)) (m j : Nat), (effR l m).testBit j = (decide (m ≤ j) && ((l[j - m]?).map (·.1.isE)).getD false)
  | [], m, j => by simp [effR]
  | (r, e) :: l, m, j => by
    rw [effR, Nat.testBit_or, effR_bit l (m + 1) j]
    rcases Nat.lt_trichotomy j m with h | h | h
    · have : ¬ m ≤ j := by omega
      have h2 : ¬ m + 1 ≤ j := by omega
      have h3 : m ≠ j := by omega
      simp only [this, h2, decide_false, Bool.false_and, Bool.or_false]
      split
      · rw [Nat.testBit_two_pow]; simp [h3]
      · simp
    · subst h
      simp only [Nat.le_refl, decide_true, Nat.sub_self, Bool.true_and]
      have h2 : ¬ j + 1 ≤ j := by omega
      simp only [h2, decide_false, Bool.false_and, Bool.or_false, List.getElem?_cons_zero, Option.map_some, Option.getD_some]
      cases hr : r.isE
      · simp
      · simp [Nat.testBit_two_pow]
    · have h1 : m ≤ j := by omega
      have h2 : m + 1 ≤ j := by omega
      have h3 : m ≠ j := by omega
      simp only [h1, h2, decide_true, Bool.true_and]
      rw [show j - m = (j - (m + 1)) + 1 by omega, List.getElem?_cons_succ]
      split
      · rw [Nat.testBit_two_pow]; simp [h3]
      · simp
theorem tmR_succ (h : chkText G nt ops bf = true) {ta : Nat → Value} {rs : List (Rec × Mem)} {e2 : Mem} {j : Nat} {o : Oper} (ho : ops[j]? = some o) :
    (mkR G P ops ta nt rs e2).tm (j + 1) = match o.dst with | some d => upd ((mkR G P ops ta nt rs e2).tm j) d ((mkR G P ops ta nt rs e2).val j) | none => (mkR G P ops ta nt rs e2).tm j := by
  obtain ⟨_, h2, _⟩ := chkText_at h ho
  funext t
  unfold Run.tm
  show (match wrOf ops t with | some i => _ | none => _) = _
  cases hw : wrOf ops t with
  | none =>
    cases hd : o.dst with
    | none => simp only; show _ = (match wrOf ops t with | some i => _ | none => _); rw [hw]
    | some d =>
      have : t ≠ d := fun e => by rw [e, (h2 d hd).2] at hw; cases hw
      simp only [upd, this, if_false]
      show _ = (match wrOf ops t with | some i => _ | none => _)
      rw [hw]
  | some i =>
    by_cases hij : i = j
    · subst hij
      obtain ⟨oi, hoi, hdi⟩ := wrOf_some hw
      rw [ho] at hoi
      cases hoi
      simp [hdi, upd]
    · have key : (i < j + 1) ↔ i < j := by omega
      simp only [key]
      cases hd : o.dst with
      | none => simp only; show _ = (match wrOf ops t with | some i => _ | none => _); rw [hw]
      | some d =>
        have : t ≠ d := fun e => by
          rw [e, (h2 d hd).2] at hw
          cases hw
          exact hij rfl
        simp only [upd, this, if_false]
        show _ = (match wrOf ops t with | some i => _ | none => _)
        rw [hw]
/-- What the records say, one by one. -/
theorem RegR.ops_ (hc : chkText G nt ops bf = true) {l : List Oper} {ta ta2 : Nat → Value} {e e20 : Mem} {rs : List (Rec × Mem)} (h : RegR G P nt ops l ta e rs ta2 e20) {rs0 : List (Rec × Mem)} {ta0 : Nat → Value} : ∀ (j : Nat), ops.toList.drop j = l → rs0.drop j = rs → rs0.length = ops.size → ta = (mkR G P ops ta0 nt rs0 e20).tm j →
    (∀ k o, j ≤ k → ops[k]? = some o → ((mkR G P ops ta0 nt rs0 e20).wanted k o = false ∧ (mkR G P ops ta0 nt rs0 e20).did k = .skip ∧ (mkR G P ops ta0 nt rs0 e20).mem (k + 1) = (mkR G P ops ta0 nt rs0 e20).mem k) ∨
      ((mkR G P ops ta0 nt rs0 e20).wanted k o = true ∧ ((mkR G P ops ta0 nt rs0 e20).did k).Right G P o (oper2 ((mkR G P ops ta0 nt rs0 e20).tm k)) ((mkR G P ops ta0 nt rs0 e20).mem k) ((mkR G P ops ta0 nt rs0 e20).mem (k + 1)))) ∧ ta2 = (mkR G P ops ta0 nt rs0 e20).tm ops.size := by
  have hjo_of : ∀ {j : Nat} {o : Oper} {l : List Oper}, ops.toList.drop j = o :: l → ops[j]? = some o ∧ ops.toList.drop (j + 1) = l := fun {j o l} hj => by
    refine ⟨?_, ?_⟩
    · have := congrArg List.head? hj
      rw [List.head?_drop] at this
      simpa using this
    · have := congrArg List.tail hj
      simpa using this
  have mem_at : ∀ {j : Nat} {r : Rec} {e' e2 : Mem} {rest : List (Rec × Mem)}, rs0.drop j = (r, e') :: rest → (mkR G P ops ta0 nt rs0 e2).did j = r ∧ (mkR G P ops ta0 nt rs0 e2).mem j = e' ∧ rs0.drop (j + 1) = rest := fun {j r e' e2 rest} hr => by
    have hg : rs0[j]? = some (r, e') := by
      have := congrArg List.head? hr
      rw [List.head?_drop] at this
      simpa using this
    refine ⟨by simp [mkR, hg], by simp [mkR, hg], by have := congrArg List.tail hr; simpa using this⟩
  have mem_next : ∀ {j : Nat} {l : List Oper} {ta1 ta2' : Nat → Value} {e1 e2 : Mem} {rest : List (Rec × Mem)}, rs0.drop j = rest → RegR G P nt ops l ta1 e1 rest ta2' e2 → (mkR G P ops ta0 nt rs0 e2).mem j = e1 := fun {j l ta1 ta2' e1 e2 rest} hd hr => by
    have hh := hr.head.1
    cases rest with
    | nil =>
      have hg : rs0[j]? = none := by
        have := congrArg List.head? hd
        rw [List.head?_drop] at this
        simpa using this
      simp only at hh
      simp [mkR, hg, hh]
    | cons x xs =>
      obtain ⟨rx, ex⟩ := x
      have hg : rs0[j]? = some (rx, ex) := by
        have := congrArg List.head? hd
        rw [List.head?_drop] at this
        simpa using this
      simp only at hh
      simp [mkR, hg, hh]
  induction h with
  | nil ta e20 =>
    intro j hj hrs hlen htm
    have hjn : ops.size ≤ j := by have := congrArg List.length hj; simp at this; omega
    have : (mkR G P ops ta0 nt rs0 e20).tm ops.size = (mkR G P ops ta0 nt rs0 e20).tm j := by
      funext t
      unfold Run.tm
      show (match wrOf ops t with | some i => _ | none => _) = (match wrOf ops t with | some i => _ | none => _)
      cases hw : wrOf ops t with
      | none => rfl
      | some i =>
        obtain ⟨oi, hoi, _⟩ := wrOf_some hw
        have hi := (Array.getElem?_eq_some_iff.1 hoi).1
        simp only [hi, show i < j by omega, if_true]
    refine ⟨fun k o hk ho => ?_, by rw [this]; exact htm⟩
    have := (Array.getElem?_eq_some_iff.1 ho).1
    omega
  | @skip o l ta σ rs ta2 σ2 hw hd h ih =>
    intro j hj hrs hlen htm
    obtain ⟨hjo, hj'⟩ := hjo_of hj
    obtain ⟨hdid, hmem, hdr⟩ := mem_at (e2 := σ2) hrs
    have hwt : ∀ k : Nat, (mkR G P ops ta0 nt rs0 σ2).wanted k o = wantedT ops ((mkR G P ops ta0 nt rs0 σ2).tm k) o := fun _ => rfl
    obtain ⟨g1, g2⟩ := ih (j + 1) hj' hdr hlen (by
      rw [tmR_succ hc hjo]
      have hv : (mkR G P ops ta0 nt rs0 σ2).val j = undef := by unfold Run.val; rw [hdid]; rfl
      rw [hv, ← htm]
      cases o.dst <;> rfl)
    refine ⟨fun k o' hk ho' => ?_, g2⟩
    rcases Nat.lt_or_ge j k with h1 | h1
    · exact g1 k o' h1 ho'
    · obtain rfl : k = j := by omega
      rw [hjo] at ho'
      cases ho'
      exact .inl ⟨by rw [hwt, ← htm]; exact hw, hdid, by rw [mem_next hdr h, hmem]⟩
  | @op o l ta σ σ1 r rs ta2 σ2 hw hk hr hd h ih =>
    intro j hj hrs hlen htm
    obtain ⟨hjo, hj'⟩ := hjo_of hj
    obtain ⟨hdid, hmem, hdr⟩ := mem_at (e2 := σ2) hrs
    have hwt : ∀ k : Nat, (mkR G P ops ta0 nt rs0 σ2).wanted k o = wantedT ops ((mkR G P ops ta0 nt rs0 σ2).tm k) o := fun _ => rfl
    obtain ⟨g1, g2⟩ := ih (j + 1) hj' hdr hlen (by
      rw [tmR_succ hc hjo]
      have hv : (mkR G P ops ta0 nt rs0 σ2).val j = r.value σ := by unfold Run.val; rw [hdid, hmem]
      rw [hv, ← htm]
      cases o.dst <;> rfl)
    refine ⟨fun k o' hk' ho' => ?_, g2⟩
    rcases Nat.lt_or_ge j k with h1 | h1
    · exact g1 k o' h1 ho'
    · obtain rfl : k = j := by omega
      rw [hjo] at ho'
      cases ho'
      refine .inr ⟨by rw [hwt, ← htm]; exact hw, ?_⟩
      rw [hdid, hmem, mem_next hdr h, ← htm]
      exact hr
/-- The stages: where an effect comes next, and what lies there; and the end. -/
def stagesR : List (Rec × Mem) → Nat → Nat → Mem → List (Nat × Mem)
  | [], _, n, e2 => [(n, e2)]
  | (r, e) :: l, j, n, e2 => cond r.isE ((j, e) :: stagesR l (j + 1) n e2) (stagesR l (j + 1) n e2)
theorem stagesR_end (n : Nat) (e2 : Mem) : ∀ (l : List (Rec × Mem)) (j : Nat), (n, e2) ∈ stagesR l j n e2
  | [], j => by simp [stagesR]
  | (r, e) :: l, j => by
    simp only [stagesR]
    cases r.isE
    · exact stagesR_end n e2 l (j + 1)
    · exact List.mem_cons_of_mem _ (stagesR_end n e2 l (j + 1))
theorem stagesR_at {n : Nat} {e2 : Mem} : ∀ (l : List (Rec × Mem)) (j k : Nat) (r : Rec) (e : Mem), l[k]? = some (r, e) → r.isE = true → (j + k, e) ∈ stagesR l j n e2
  | [], j, k, r, e, h, _ => by simp at h
  | (r0, e0) :: l, j, 0, r, e, h, hr => by
    simp at h
    obtain ⟨rfl, rfl⟩ := h
    simp [stagesR, hr]
  | (r0, e0) :: l, j, k + 1, r, e, h, hr => by
    have := stagesR_at (n := n) (e2 := e2) l (j + 1) k r e (by simpa using h) hr
    rw [show j + 1 + k = j + (k + 1) by omega] at this
    simp only [stagesR]
    cases r0.isE
    · exact this
    · exact List.mem_cons_of_mem _ this
/-- What loads and makes must show. -/
def DynP (bf : List Nat) (em n : Nat) (st : List (Nat × Mem)) : List (Rec × Mem) → Nat → Prop
  | [], _ => True
  | (r, e) :: l, j => (match r with
      | .load b _ _ _ => fixedAt bf em n j = true ∨ ∃ row, e.get b = some (.row row) ∧ ∀ s ∈ st, mayMeet bf em n j s.1 = true → s.2.get b = some (.row row)
      | .make x _ => upperFixed bf em n j = true ∨ ∀ s ∈ st, j < s.1 → mayMeet bf em n j s.1 = true → s.2.get e.next = some x
      | _ => True) ∧ DynP bf em n st l (j + 1)
theorem DynP_at {em n : Nat} {st : List (Nat × Mem)} : ∀ (l : List (Rec × Mem)) (m j : Nat) (r : Rec) (e : Mem), DynP bf em n st l m → l[j]? = some (r, e) → (match r with
      | .load b _ _ _ => fixedAt bf em n (m + j) = true ∨ ∃ row, e.get b = some (.row row) ∧ ∀ s ∈ st, mayMeet bf em n (m + j) s.1 = true → s.2.get b = some (.row row)
      | .make x _ => upperFixed bf em n (m + j) = true ∨ ∀ s ∈ st, m + j < s.1 → mayMeet bf em n (m + j) s.1 = true → s.2.get e.next = some x
      | _ => True)
  | [], m, j, r, e, _, h => by simp at h
  | (r0, e0) :: l, m, 0, r, e, h, hj => by
    simp at hj
    obtain ⟨rfl, rfl⟩ := hj
    have := h.1
    simpa using this
  | (r0, e0) :: l, m, j + 1, r, e, h, hj => by
    have := DynP_at l (m + 1) j r e h.2 (by simpa using hj)
    rw [show m + 1 + j = m + (j + 1) by omega] at this
    simpa using this
theorem RegR.ok {ta ta2 : Nat → Value} {e e2 : Mem} {rs : List (Rec × Mem)} (hc : chkText G nt ops (masks ops.toList []) = true) (hr : RegR G P nt ops ops.toList ta e rs ta2 e2) (he : chkEff (masks ops.toList []) (effR rs 0) ops.size = true) (hd : DynP (masks ops.toList []) (effR rs 0) ops.size (stagesR rs 0 ops.size e2) rs 0) (hG : G ≤ e.next) :
    (mkR G P ops ta nt rs e2).Ok ∧ (mkR G P ops ta nt rs e2).mem 0 = e ∧ (mkR G P ops ta nt rs e2).mem ops.size = e2 ∧ (mkR G P ops ta nt rs e2).tm ops.size = ta2 := by
  generalize hbf : masks ops.toList [] = bf at hc he hd
  have hbf := hbf.symm
  obtain ⟨hhead, hlen⟩ := hr.head
  have hlen' : rs.length = ops.size := by simpa using hlen
  have bit : ∀ k i, (bf.getD k 0).testBit i = true → Pre ops i k := by
    rw [hbf]
    exact masks_pre ops.toList [] 0 rfl rfl (by simp)
  have htm0 : ta = (mkR G P ops ta nt rs e2).tm 0 := by
    funext t
    unfold Run.tm
    show _ = (match wrOf ops t with | some i => _ | none => _)
    cases wrOf ops t <;> simp
  obtain ⟨hops, htm⟩ := hr.ops_ hc (rs0 := rs) (ta0 := ta) 0 rfl rfl hlen' htm0
  have mem0 : (mkR G P ops ta nt rs e2).mem 0 = e := by
    cases rs with
    | nil => simp only at hhead; simp [mkR, hhead]
    | cons x xs => obtain ⟨r, e'⟩ := x; simp only at hhead; simp [mkR, hhead]
  have memn : (mkR G P ops ta nt rs e2).mem ops.size = e2 := by
    have : rs[ops.size]? = none := List.getElem?_eq_none (by omega)
    simp [mkR, this]
  have isE : ∀ j, ((mkR G P ops ta nt rs e2).did j).isE = (effR rs 0).testBit j := fun j => by
    rw [effR_bit]
    simp only [Nat.zero_le, decide_true, Bool.true_and, Nat.sub_zero]
    simp only [mkR]
    cases rs[j]? with
    | none => rfl
    | some x => rfl
  generalize hR : mkR G P ops ta nt rs e2 = R at hops htm mem0 memn isE
  have hwr : R.wr = wrOf ops := by rw [← hR]; rfl
  have did_at : ∀ j r e', rs[j]? = some (r, e') → R.did j = r ∧ R.mem j = e' := fun j r e' h => by rw [← hR]; simp [mkR, h]
  -- the effects are in order
  have ord : ∀ j i, i < j → j < ops.size → (R.did i).isE = true → (R.did j).isE = true → Pre ops i j := by
    intro j
    induction j using Nat.strongRecOn with
    | _ j ih =>
      intro i hij hj hi hj'
      have := List.all_eq_true.1 he j (List.mem_range.2 hj)
      rw [isE] at hj' hi
      rw [hj'] at this
      simp only [Bool.not_true, Bool.false_or] at this
      split at this
      · rename_i hn
        have := lastE_none hn i hij
        rw [this] at hi
        cases hi
      · rename_i i' hl
        obtain ⟨g1, g2, g3⟩ := lastE_spec hl
        have hp := bit _ _ this
        rcases Nat.lt_trichotomy i i' with h1 | h1 | h1
        · exact (ih i' g1 i h1 (by omega) (by rw [isE]; exact hi) (by rw [isE]; exact g2)).trans hp
        · rw [h1]; exact hp
        · have := g3 i h1 hij
          rw [this] at hi
          cases hi
  -- memory of a stage
  have stage_mem : ∀ J, R.Stage J → ∃ e', (J, e') ∈ stagesR rs 0 ops.size e2 ∧ R.mem J = e' := fun J hJ => by
    rcases hJ with rfl | ⟨h1, h2⟩
    · exact ⟨e2, stagesR_end _ _ _ _, memn⟩
    · have hlt : J < rs.length := by omega
      obtain ⟨g1, g2⟩ := did_at J rs[J].1 rs[J].2 (by simp [hlt])
      refine ⟨rs[J].2, ?_, g2⟩
      have := stagesR_at (n := ops.size) (e2 := e2) rs 0 J rs[J].1 rs[J].2 (by simp [hlt]) (by rw [← g1]; exact h2)
      simpa using this
  have meets : ∀ j J, R.Meets j J → mayMeet bf (effR rs 0) ops.size j J = true := fun j J ⟨_, h1, h2⟩ => by
    unfold mayMeet
    rw [List.all_eq_true]
    intro e he
    have he := List.mem_range.1 he
    simp only [Bool.or_eq_true, Bool.not_eq_true']
    cases hE : (effR rs 0).testBit e with
    | false => exact .inl rfl
    | true =>
      refine .inr ?_
      have hE' : (R.did e).isE = true := by rw [isE]; exact hE
      split
      · rename_i hlt
        cases hb : (bf.getD e 0).testBit j with
        | false => rfl
        | true => exact absurd (bit _ _ hb) (h1 e hlt hE')
      · rename_i hlt
        cases hb : (bf.getD j 0).testBit e with
        | false => rfl
        | true => exact absurd (h2 e he hE' (bit _ _ hb)) hlt
  -- steps without effects leave what lies there
  have step : ∀ k, k < ops.size → (R.did k).isE = false → R.mem (k + 1) = R.mem k ∨ ∃ x fm, R.did k = .make x fm ∧ R.mem (k + 1) = (R.mem k).push x := fun k hk hn => by
    rcases hops k ops[k] (Nat.zero_le _) (by simp [hk]) with ⟨_, _, h⟩ | ⟨_, h⟩
    · exact .inl h
    · cases hd : R.did k <;> rw [hd] at h hn <;> simp only [Rec.Right, Rec.isE] at h hn
      · exact .inl h.2
      · exact .inl h.2.1
      · exact .inr ⟨_, _, rfl, h.2⟩
      · cases hn
  have calm : ∀ (d j : Nat), j + d ≤ ops.size → (∀ k, j ≤ k → k < j + d → (R.did k).isE = false) → ∀ b, b < (R.mem j).next → (R.mem (j + d)).get b = (R.mem j).get b ∧ b < (R.mem (j + d)).next := by
    intro d
    induction d with
    | zero => intro j _ _ b hb; exact ⟨rfl, hb⟩
    | succ d ih =>
      intro j hj hn b hb
      obtain ⟨h1, h2⟩ := ih j (by omega) (fun k a c => hn k a (by omega)) b hb
      rcases step (j + d) (by omega) (hn _ (by omega) (by omega)) with h | ⟨x, fm, _, h⟩
      · rw [show j + (d + 1) = j + d + 1 by omega, h]; exact ⟨h1, h2⟩
      · rw [show j + (d + 1) = j + d + 1 by omega, h, Mem.push_get, if_neg (by omega)]
        exact ⟨h1, by simp [Mem.push]; omega⟩
  -- the natural stage
  have natural : ∀ j J, j < ops.size → (R.did j).isE = false → upperFixed bf (effR rs 0) ops.size j = true → j < J → R.Meets j J → ∀ k, j ≤ k → k < J → (R.did k).isE = false := fun j J hj hjE hu hjJ hM k hk1 hk2 => by
    obtain ⟨hSt, hM1, hM2⟩ := hM
    have hJn : J ≤ ops.size := by rcases hSt with h | h <;> omega
    cases hkE : (R.did k).isE with
    | false => rfl
    | true =>
      exfalso
      have hjk : j < k := by
        rcases Nat.lt_or_ge j k with h | h
        · exact h
        · obtain rfl : k = j := by omega
          rw [hjE] at hkE; cases hkE
      unfold upperFixed at hu
      split at hu
      · rename_i hn
        have := firstE_none (by omega) hn k (by omega) (by omega)
        rw [← isE, hkE] at this
        cases this
      · rename_i i hf
        obtain ⟨g1, g2, g3, g4⟩ := firstE_spec hf
        have hik : i ≤ k := by
          rcases Nat.lt_or_ge k i with h | h
          · have := g4 k (by omega) h
            rw [← isE, hkE] at this
            cases this
          · exact h
        exact hM1 i (by omega) (by rw [isE]; exact g3) (bit _ _ hu)
  refine ⟨⟨fun t i => ?_, fun j o ho => (chkText_at hc ho).1, fun j o t i ho ht hi => ?_, fun j o d ho hdst => ((chkText_at hc ho).2.1 d hdst).1, fun j o g w ho hg => ?_, fun i j hij hj hi hj' => ord j i hij hj hi hj', by rw [mem0]; exact hG, fun j o v ho hv μ => ?_, fun j o g ho hg => ?_, fun j o ho => ?_⟩, mem0, memn, htm.symm⟩
  · rw [hwr]
    exact ⟨wrOf_some, fun ⟨o, ho, hdst⟩ => ((chkText_at hc ho).2.1 t hdst).2⟩
  · rw [hwr] at hi
    obtain ⟨h1, h2⟩ := (chkText_at hc ho).2.2.1 t ht i hi
    exact ⟨fun h => bit _ _ (h1 h), fun h => bit _ _ (h2 h)⟩
  · obtain ⟨h1, h2⟩ := (chkText_at hc ho).2.2.2.1 g w hg
    cases hog : ops[g]? with
    | none => rw [hog] at h2; cases h2
    | some og =>
      rw [hog] at h2
      cases hdd : og.dst with
      | none => simp [hdd] at h2
      | some d => exact ⟨og, d, rfl, hdd, h1⟩
  · have := Array.all_eq_true_iff_forall_mem.1 (chkText_at hc ho).2.2.2.2 _ hv
    exact closedV_rel μ 3 v this
  · have := Array.all_eq_true_iff_forall_mem.1 (chkText_at hc ho).2.2.2.2 _ hg
    simpa [Nat.blt_eq] using this
  · have hjn : j < ops.size := (Array.getElem?_eq_some_iff.1 ho).1
    have hlt : j < rs.length := by omega
    obtain ⟨hdj, hmj⟩ := did_at j rs[j].1 rs[j].2 (by simp [hlt])
    have hdyn := DynP_at rs 0 j rs[j].1 rs[j].2 hd (by simp [hlt])
    rw [← hdj, Nat.zero_add] at hdyn
    rcases hops j o (Nat.zero_le _) ho with h | ⟨hw, hright⟩
    · exact .inl h
    · refine .inr ⟨hw, ?_⟩
      cases hrec : R.did j with
      | skip => rw [hrec] at hright; exact hright
      | val v => rw [hrec] at hright; exact hright
      | load b off cs v =>
        rw [hrec] at hright hdyn
        obtain ⟨h1, h2, h3, r, hr', hcs⟩ := hright
        have hjE : (R.did j).isE = false := by rw [hrec]; rfl
        refine ⟨h1, h2, h3, Mem.lt hr', fun J hM => ?_⟩
        rcases hdyn with hfix | hsame
        · unfold fixedAt at hfix
          simp only [Bool.and_eq_true] at hfix
          have hjJ : j < J := by
            rcases Nat.lt_or_ge j J with h | h
            · exact h
            · exfalso
              obtain ⟨hSt, hM1, hM2⟩ := hM
              rcases hSt with h' | ⟨hJ1, hJ2⟩
              · omega
              · have hJj : J ≠ j := fun e => by rw [e, hjE] at hJ2; cases hJ2
                have hf1 := hfix.1
                split at hf1
                · rename_i hn
                  have := lastE_none hn J (by omega)
                  rw [← isE, hJ2] at this
                  cases this
                · rename_i i hl
                  obtain ⟨g1, g2, g3⟩ := lastE_spec hl
                  have hJi : J ≤ i := by
                    rcases Nat.lt_or_ge i J with h' | h'
                    · have := g3 J h' (by omega)
                      rw [← isE, hJ2] at this
                      cases this
                    · exact h'
                  have := hM2 i (by omega) (by rw [isE]; exact g2) (bit _ _ hf1)
                  omega
          have hnat := natural j J hjn hjE hfix.2 hjJ hM
          have hJn : J ≤ ops.size := by rcases hM.1 with h | h <;> omega
          obtain ⟨g1, g2⟩ := calm (J - j) j (by omega) (fun k a c => hnat k a (by omega)) b (Mem.lt hr')
          rw [show j + (J - j) = J by omega] at g1 g2
          refine ⟨r, ?_, hcs⟩
          unfold Run.at_
          rw [if_pos g2, g1, hr']
        · rw [hmj] at hr'
          obtain ⟨row, hrow, hsame⟩ := hsame
          obtain ⟨e', he', hmJ⟩ := stage_mem J hM.1
          have hg := hsame _ he' (meets j J hM)
          simp only at hg
          rw [← hmJ] at hg
          rw [hrow] at hr'
          cases hr'
          refine ⟨_, ?_, hcs⟩
          unfold Run.at_
          rw [if_pos (Mem.lt hg), hg]
      | make x fm =>
        rw [hrec] at hright hdyn
        obtain ⟨h1, h2⟩ := hright
        have hjE : (R.did j).isE = false := by rw [hrec]; rfl
        refine ⟨h1, h2, fun J hjJ hM => ?_⟩
        have hJn : J ≤ ops.size := by rcases hM.1 with h | h <;> omega
        rcases hdyn with hfix | hsame
        · have hnat := natural j J hjn hjE hfix hjJ hM
          have hget : (R.mem (j + 1)).get (R.mem j).next = some x := by rw [h2, Mem.push_get, if_pos rfl]
          obtain ⟨g1, _⟩ := calm (J - (j + 1)) (j + 1) (by omega) (fun k a c => hnat k (by omega) (by omega)) (R.mem j).next (by rw [h2]; simp [Mem.push])
          rw [show j + 1 + (J - (j + 1)) = J by omega] at g1
          rw [g1, hget]
        · obtain ⟨e', he', hmJ⟩ := stage_mem J hM.1
          have hg := hsame _ he' hjJ (meets j J hM)
          simp only at hg
          rw [hmJ, hmj]
          exact hg
      | eff v => rw [hrec] at hright; exact hright
theorem putO_rel {μ : Mu} {ta : Nat → Value} {v vc : Value} {d : Option Nat} {a : Act} (h : dstOk nt d = true) (ht : TRel μ nt ta a.tmps) (hv : VRel μ v vc) : TRel μ nt (putO ta d v) (a.put d vc).tmps := by
  cases d with
  | none => exact ht
  | some d => exact ht.put (by simpa [dstOk, Nat.blt_eq] using h) hv
theorem orel_ofR {μ : Mu} {σ : Mem} {w : World} {ta : Nat → Value} {a : Act} {o : Oper} (hs : Sim G μ σ w) (ht : TRel μ nt ta a.tmps) (h : opndOk G o = true) : ORel μ (oper2 ta) a.eval o.op.operands := fun x hx => by
  have := Array.all_eq_true_iff_forall_mem.1 h x hx
  cases x with
  | tmp t => exact ht.2 t
  | const v => exact closedV_rel μ 3 v this
  | global g =>
    obtain ⟨bi, h1, h2, h3⟩ := hs.glob g (by simpa [Nat.blt_eq] using this)
    have k := VRel.ptr (μ := μ) g 0 bi h1
    rw [h2, h3] at k
    exact k
  | func f => exact .func _ _ _ _ _ rfl rfl (by simp) rfl (by simp)
theorem wanted_ofR {μ : Mu} {ta : Nat → Value} {a : Act} {ops : Array Oper} {o : Oper} (ht : TRel μ nt ta a.tmps) : Region.wanted o (yielded ops a.tmps) = wantedT ops ta o := by
  unfold Region.wanted wantedT
  cases o.guard with
  | none => rfl
  | some gw =>
    obtain ⟨g, want⟩ := gw
    simp only [yielded]
    cases hd : (ops[g]?).bind (·.dst) with
    | none => rfl
    | some d =>
      simp only [Option.bind_some]
      have hv := ht.2 d
      cases hy : a.tmps[d]? with
      | none =>
        have e : a.tmps.getD d undef = undef := by simp [hy]
        rw [e] at hv
        generalize ta d = z at hv
        cases z <;> first | rfl | (exfalso; cases hv; done)
      | some y =>
        have e : a.tmps.getD d undef = y := by simp [hy]
        rw [e] at hv
        generalize ta d = z at hv
        cases hv with
        | flat _ => cases y <;> first | rfl | (simp; done)
        | _ => first | rfl | (simp; done)
/-- A region in the text's order. -/
theorem RegR.text {rc : Option Nat} {l : List Oper} {ta ta2 : Nat → Value} {e e2 : Mem} {rs : List (Rec × Mem)} (h : RegR G P nt ops l ta e rs ta2 e2) : ∀ (j : Nat), ops.toList.drop j = l →
    e.next ≤ e2.next ∧ ∀ μ w (a : Act), Sim G μ e w → G ≤ e.next → Fresh μ e e2 → TRel μ nt ta a.tmps → ∀ Q : Exit → Act → World → Prop, (∀ (a' : Act) w' μ', a'.defers = a.defers → Stp G e μ w e2 μ' w' → TRel μ' nt ta2 a'.tmps → Q .normal a' w') → wpOpsIn (FW rc) 0 P ops Q (List.range' j l.length) a w := by
  have hjo_of : ∀ {j : Nat} {o : Oper} {l : List Oper}, ops.toList.drop j = o :: l → ops[j]? = some o ∧ ops.toList.drop (j + 1) = l := fun {j o l} hj => by
    refine ⟨?_, ?_⟩
    · have := congrArg List.head? hj
      rw [List.head?_drop] at this
      simpa using this
    · have := congrArg List.tail hj
      simpa using this
  induction h with
  | nil ta e => exact fun j hj => ⟨Nat.le_refl _, fun μ w a hs hG _ ht Q hQ => hQ a w μ rfl (Stp.refl hs hG) ht⟩
  | @skip o l ta e rs ta2 e2 hw hd h ih =>
    intro j hj
    obtain ⟨hjo, hj'⟩ := hjo_of hj
    obtain ⟨h1, h2⟩ := ih (j + 1) hj'
    refine ⟨h1, fun μ w a hs hG hf ht Q hQ => ?_⟩
    rw [List.length_cons, List.range'_succ]
    simp only [wpOpsIn, hjo, wanted_ofR ht, hw, Bool.false_eq_true, if_false]
    refine ⟨fun _ _ => trivial, h2 μ w _ hs hG hf (putO_rel hd ht (VRel.undef μ)) Q fun a' w' μ' hd' hst htr => hQ a' w' μ' (hd'.trans ?_) hst htr⟩
    cases o.dst <;> rfl
  | @op o l ta e e1 r rs ta2 e2 hw hk hr hd h ih =>
    intro j hj
    obtain ⟨hjo, hj'⟩ := hjo_of hj
    obtain ⟨h1, h2⟩ := ih (j + 1) hj'
    have heop := hr.eop
    refine ⟨Nat.le_trans heop.1 h1, fun μ w a hs hG hf ht Q hQ => ?_⟩
    rw [List.length_cons, List.range'_succ]
    simp only [wpOpsIn, hjo, wanted_ofR ht, hw, if_true]
    refine heop.2 μ w a hs hG (fun b g1 g2 => hf b g1 (Nat.lt_of_lt_of_le g2 h1)) (orel_ofR hs ht hk) _ _ (fun vc w1 μ1 s1 hv => ?_) rc
    refine h2 μ1 w1 _ s1.sim (Nat.le_trans hG s1.next) (fun b g1 g2 => ?_) (putO_rel hd (ht.ext s1.extE) hv) Q fun a' w' μ' hd' hst htr => hQ a' w' μ' (hd'.trans ?_) (s1.trans hst) htr
    · rw [s1.ext b (.inr g1)]; exact hf b (Nat.le_trans s1.next g1) g2
    · cases o.dst <;> rfl
theorem RegR.plain {rd : Option Nat} {id : Nat} {dm : List Nat} {ta ta2 : Nat → Value} {σ σ2 : Mem} {rs : List (Rec × Mem)} (h : RegR G P nt ops ops.toList ta σ rs ta2 σ2) : SCode G P rd nt (.region id ops false) ta dm σ .normal ta2 dm σ2 := by
  refine ⟨(h.text (rc := none) 0 rfl).1, fun μ w a rc hs hG hf ht hd _ Q hQ => wpIn_region ?_⟩
  have h3 := (h.text (rc := rc) 0 rfl).2 μ w a hs hG hf ht Q fun a' w' μ' he hst htr => hQ a' w' μ' (by rw [he]; exact hd.ext hst.extE) hst htr
  rw [List.range_eq_range']
  simpa using h3
theorem RegR.drawn {rd : Option Nat} {id : Nat} {dm : List Nat} {ta ta2 : Nat → Value} {σ σ2 : Mem} {rs : List (Rec × Mem)} (h : RegR G P nt ops ops.toList ta σ rs ta2 σ2) (hm : P.follows .mixedOrders = true) (hc : chkText G nt ops (masks ops.toList []) = true) (he : chkEff (masks ops.toList []) (effR rs 0) ops.size = true) (hd : DynP (masks ops.toList []) (effR rs 0) ops.size (stagesR rs 0 ops.size σ2) rs 0) (hG : G ≤ σ.next) : SCode G P rd nt (.region id ops true) ta dm σ .normal ta2 dm σ2 := by
  obtain ⟨hok, m0, mn, tmn⟩ := h.ok hc he hd hG
  have := region_drawn (id := id) (dm := dm) (rd := rd) hok hm
  rw [m0, mn, tmn] at this
  exact this
end Go.Proofs.YtpjpefcpbkmilaaDoor
