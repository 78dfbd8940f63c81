/-
  Regions whose order is open, carried out in the text's order and checked. Over any program. Conditions: none.
-/
import Derived.Test.YthemeeiedlbhkaaGreatDoorSm
namespace Go.Proofs.YthemeeiedlbhkaaGreatDoor
variable {P : Program} {G : Nat} {nt : Nat}

/-- Which operations come before each: as numbers, bit by bit. -/
def maskOf (acc : List Nat) (o : Oper) : Nat := o.after.toList.foldl (fun s e => if Region.binds .any e then s ||| 2 ^ e.on ||| acc.getD e.on 0 else s) 0
def masks : List Oper → List Nat → List Nat
  | [], acc => acc
  | o :: l, acc => masks l (acc ++ [maskOf acc o])
theorem maskOf_pre {ops : Array Oper} {acc : List Nat} {o : Oper} {j : Nat} (ho : ops[j]? = some o) (hacc : ∀ k i, (acc.getD k 0).testBit i = true → Pre ops i k) (i : Nat) (h : (maskOf acc o).testBit i = true) : Pre ops i j := by
  have key : ∀ (l : List Edge) (s : Nat), (∀ e ∈ l, e ∈ o.after) → (s.testBit i = true → Pre ops i j) → (l.foldl (fun s e => if Region.binds .any e then s ||| 2 ^ e.on ||| acc.getD e.on 0 else s) s).testBit i = true → Pre ops i j := by
    intro l
    induction l with
    | nil => intro s _ hs h; exact hs h
    | cons e l ih =>
      intro s he hs h
      simp only [List.foldl_cons] at h
      refine ih _ (fun e' he' => he e' (by simp [he'])) (fun h' => ?_) h
      split at h'
      · rename_i hb
        rw [Nat.testBit_or, Nat.testBit_or] at h'
        simp only [Bool.or_eq_true] at h'
        rcases h' with (h' | h') | h'
        · exact hs h'
        · rw [Nat.testBit_two_pow] at h'
          exact .one ho (he e (by simp)) hb (by simpa using h')
        · exact .two ho (he e (by simp)) hb rfl (hacc e.on i h')
      · exact hs h'
  exact key o.after.toList 0 (fun e he => by simpa using he) (by simp) h
theorem masks_pre {ops : Array Oper} : ∀ (l : List Oper) (acc : List Nat) (m : Nat), acc.length = m → ops.toList.drop m = l → (∀ k i, (acc.getD k 0).testBit i = true → Pre ops i k) → ∀ k i, ((masks l acc).getD k 0).testBit i = true → Pre ops i k := by
  intro l
  induction l with
  | nil => intro acc m _ _ h; exact h
  | cons o l ih =>
    intro acc m hm hd h
    have ho : ops[m]? = some o := by
      have := congrArg List.head? hd
      rw [List.head?_drop] at this
      simpa using this
    refine ih (acc ++ [maskOf acc o]) (m + 1) (by simp [hm]) (by have := congrArg List.tail hd; simpa using this) fun k i hk => ?_
    rcases Nat.lt_trichotomy k m with h1 | h1 | h1
    · rw [List.getD_eq_getElem?_getD, List.getElem?_append_left (by omega)] at hk
      exact h k i (by rw [List.getD_eq_getElem?_getD]; exact hk)
    · subst h1
      rw [List.getD_eq_getElem?_getD, List.getElem?_append_right (by omega)] at hk
      simp [hm] at hk
      exact maskOf_pre ho h i hk
    · rw [List.getD_eq_getElem?_getD, List.getElem?_eq_none (by simp; omega)] at hk
      simp at hk
/-- Which operation writes a temporary. -/
def wrOf (ops : Array Oper) (t : Nat) : Option Nat := ops.toList.findIdx? fun o => o.dst == some t
/-- What the text alone must show. -/
def chkText (G nt : Nat) (ops : Array Oper) (bf : List Nat) : Bool :=
  (List.range ops.size).all fun j => match ops[j]? with
    | none => false
    | some o => allA (fun e => !Region.binds .any e || Nat.blt e.on j) o.after &&
      (match o.dst with | none => true | some d => Nat.blt d nt && (wrOf ops d == some j)) &&
      (o.looksAt ops).all (fun t => match wrOf ops t with
        | none => true
        | some i => (!Nat.blt i j || (bf.getD j 0).testBit i) && (!Nat.blt j i || (bf.getD i 0).testBit j)) &&
      (match o.guard with | none => true | some (g, _) => Nat.blt g j && ((ops[g]?).bind (·.dst)).isSome) &&
      opndOk G o
def isEff : Rec → Bool | .eff _ => true | _ => false
/-- Which records are effects, as a number. -/
def effMask : List (Rec × EM) → Nat → Nat
  | [], _ => 0
  | (r, _) :: l, j => (if r.isE then 2 ^ j else 0) ||| effMask l (j + 1)
theorem effMask_bit : ∀ (l : List (Rec × EM)) (m j : Nat), (effMask l m).testBit j = (decide (m ≤ j) && ((l[j - m]?).map (·.1.isE)).getD false)
  | [], m, j => by simp [effMask]
  | (r, e) :: l, m, j => by
    rw [effMask, Nat.testBit_or, effMask_bit l (m + 1) j]
    rcases Nat.lt_trichotomy j m with h | h | h
    · have : ¬ m ≤ j := by omega
      have h2 : ¬ m + 1 ≤ j := by omega
      have h3 : m ≠ j := by omega
      simp only [this, h2, decide_false, Bool.false_and, Bool.or_false]
      split
      · rw [Nat.testBit_two_pow]; simp [h3]
      · simp
    · subst h
      simp only [Nat.le_refl, decide_true, Nat.sub_self, Bool.true_and]
      have h2 : ¬ j + 1 ≤ j := by omega
      simp only [h2, decide_false, Bool.false_and, Bool.or_false, List.getElem?_cons_zero, Option.map_some, Option.getD_some]
      cases hr : r.isE
      · simp
      · simp []
    · have h1 : m ≤ j := by omega
      have h2 : m + 1 ≤ j := by omega
      have h3 : m ≠ j := by omega
      simp only [h1, h2, decide_true, Bool.true_and]
      rw [show j - m = (j - (m + 1)) + 1 by omega, List.getElem?_cons_succ]
      split
      · rw [Nat.testBit_two_pow]; simp [h3]
      · simp
/-- The last effect ahead of j, the first behind it. -/
def lastE (em : Nat) : Nat → Option Nat
  | 0 => none
  | j + 1 => if em.testBit j then some j else lastE em j
def firstE (em n : Nat) : Nat → Nat → Option Nat
  | 0, _ => none
  | f + 1, j => if j < n then (if em.testBit j then some j else firstE em n f (j + 1)) else none
/-- The effects come one behind the other; where an operation that reads or makes memory stands among them is fixed. -/
def chkEff (bf : List Nat) (em n : Nat) : Bool :=
  (List.range n).all fun j => !em.testBit j || (match lastE em j with | none => true | some i => (bf.getD j 0).testBit i)
def fixedAt (bf : List Nat) (em n j : Nat) : Bool :=
  (match lastE em j with | none => true | some i => (bf.getD j 0).testBit i) && (match firstE em n (n - j) (j + 1) with | none => true | some i => (bf.getD i 0).testBit j)
theorem lastE_spec {em : Nat} : ∀ {j i : Nat}, lastE em j = some i → i < j ∧ em.testBit i = true ∧ ∀ k, i < k → k < j → em.testBit k = false := by
  intro j
  induction j with
  | zero => intro i h; cases h
  | succ j ih =>
    intro i h
    simp only [lastE] at h
    split at h
    · rename_i hb; cases h; exact ⟨by omega, hb, fun k h1 h2 => by omega⟩
    · rename_i hb
      obtain ⟨h1, h2, h3⟩ := ih h
      refine ⟨by omega, h2, fun k h4 h5 => ?_⟩
      rcases Nat.lt_or_ge k j with h6 | h6
      · exact h3 k h4 h6
      · obtain rfl : k = j := by omega
        simpa using hb
theorem lastE_none {em : Nat} : ∀ {j : Nat}, lastE em j = none → ∀ k, k < j → em.testBit k = false := by
  intro j
  induction j with
  | zero => intro _ k h; omega
  | succ j ih =>
    intro h k hk
    simp only [lastE] at h
    split at h
    · cases h
    · rename_i hb
      rcases Nat.lt_or_ge k j with h6 | h6
      · exact ih h k h6
      · obtain rfl : k = j := by omega
        simpa using hb
theorem firstE_spec {em n : Nat} : ∀ {f j i : Nat}, firstE em n f j = some i → j ≤ i ∧ i < n ∧ em.testBit i = true ∧ ∀ k, j ≤ k → k < i → em.testBit k = false := by
  intro f
  induction f with
  | zero => intro j i h; cases h
  | succ f ih =>
    intro j i h
    simp only [firstE] at h
    split at h
    · rename_i hn
      split at h
      · rename_i hb; cases h; exact ⟨by omega, hn, hb, fun k h1 h2 => by omega⟩
      · rename_i hb
        obtain ⟨h1, h2, h3, h4⟩ := ih h
        refine ⟨by omega, h2, h3, fun k h5 h6 => ?_⟩
        rcases Nat.lt_or_ge j k with h7 | h7
        · exact h4 k h7 h6
        · obtain rfl : k = j := by omega
          simpa using hb
    · cases h
theorem firstE_none {em n : Nat} : ∀ {f j : Nat}, n ≤ j + f → firstE em n f j = none → ∀ k, j ≤ k → k < n → em.testBit k = false := by
  intro f
  induction f with
  | zero => intro j hf _ k h1 h2; omega
  | succ f ih =>
    intro j hf h k h1 h2
    simp only [firstE] at h
    split at h
    · split at h
      · cases h
      · rename_i hb
        rcases Nat.lt_or_ge j k with h7 | h7
        · exact ih (by omega) h k h7 h2
        · obtain rfl : k = j := by omega
          simpa using hb
    · omega
/-- Two values alike. -/
def eqV : Nat → Value → Value → Bool
  | _, .bool a, .bool b => a == b
  | _, .int j a, .int k b => j == k && a == b
  | _, .string a, .string b => a.data.toList == b.data.toList
  | _, .pointer a, .pointer b => a == b
  | _, .slice a n c, .slice b m d => a == b && n == m && c == d
  | _, .map a, .map b => a == b
  | _, .nilIface, .nilIface => true
  | _, .nilFunc, .nilFunc => true
  | n + 1, .iface t v, .iface u w => t == u && eqV n v w
  | n + 1, .agg a, .agg b => (a.size == b.size && (a.toList.zip b.toList).all fun x => eqV n x.1 x.2)
  | n + 1, .tuple a, .tuple b => (a.size == b.size && (a.toList.zip b.toList).all fun x => eqV n x.1 x.2)
  | n + 1, .func f a c, .func g b d => f == g && (a.size == b.size && (a.toList.zip b.toList).all fun x => eqV n x.1 x.2) && (c.size == d.size && (c.toList.zip d.toList).all fun x => eqV n x.1 x.2)
  | _, _, _ => false
theorem eqA_eq {n : Nat} (ih : ∀ a b, eqV n a b = true → a = b) {a b : Array Value} (h : (a.size == b.size && (a.toList.zip b.toList).all fun x => eqV n x.1 x.2) = true) : a = b := by
  simp only [Bool.and_eq_true, beq_iff_eq] at h
  apply Array.ext h.1
  intro i h1 h2
  have hz : (a.toList.zip b.toList)[i]? = some (a[i], b[i]) := by
    rw [List.getElem?_zip_eq_some]
    simp [h1, h2]
  exact ih _ _ (List.all_eq_true.1 h.2 _ (List.mem_of_getElem? hz))
theorem eqV_eq : ∀ (n : Nat) (a b : Value), eqV n a b = true → a = b := by
  intro n
  induction n with
  | zero =>
    intro a b h
    cases a <;> cases b <;> first | (simp [eqV] at h; done) | skip
    all_goals first | (simp [eqV] at h; simp [h]; done) | skip
    · rename_i s t
      simp only [eqV, beq_iff_eq] at h
      have : s.data = t.data := Array.ext' h
      cases s; cases t; simp at this; rw [this]
    all_goals rfl
  | succ n ih =>
    intro a b h
    cases a <;> cases b <;> first | (simp [eqV] at h; done) | skip
    all_goals first | (simp [eqV] at h; simp [h]; done) | skip
    · rename_i s t
      simp only [eqV, beq_iff_eq] at h
      have : s.data = t.data := Array.ext' h
      cases s; cases t; simp at this; rw [this]
    · simp only [eqV, Bool.and_eq_true (_ && _) (_ && _)] at h
      rw [Bool.and_eq_true] at h
      obtain ⟨⟨h1, h2⟩, h3⟩ := h
      rw [eqA_eq ih h2, eqA_eq ih h3, eq_of_beq h1]
    · simp only [eqV, Bool.and_eq_true, beq_iff_eq] at h
      rw [h.1, ih _ _ h.2]
    · rw [eqV] at h
      rw [eqA_eq ih h]
    · rw [eqV] at h
      rw [eqA_eq ih h]
def eqL : List Value → List Value → Bool
  | [], [] => true
  | a :: l, b :: m => eqV 2 a b && eqL l m
  | _, _ => false
theorem eqL_eq : ∀ (a b : List Value), eqL a b = true → a = b
  | [], [], _ => rfl
  | a :: l, b :: m, h => by simp only [eqL, Bool.and_eq_true] at h; rw [eqV_eq 2 _ _ h.1, eqL_eq l m h.2]
  | [], _ :: _, h => by cases h
  | _ :: _, [], h => by cases h
noncomputable def mkRun (G : Nat) (P : Program) (ops : Array Oper) (ta : Nat → Value) (nt : Nat) (rs : List (Rec × EM)) (e2 : EM) : Run G P ops ta nt where
  did := fun j => match rs[j]? with | some (r, _) => r | none => .skip
  mem := fun j => match rs[j]? with | some (_, e) => e.mem | none => e2.mem
  wr := wrOf ops
theorem regRun_head {D : Doer} {ops : Array Oper} {l : List Oper} {tr tr2 : T Value} {e e2 : EM} {rs : List (Rec × EM)} (h : regRun D G P nt ops l tr e = some (rs, tr2, e2)) : (match rs with | [] => e2 = e | (_, e') :: _ => e' = e) ∧ rs.length = l.length := by
  induction l generalizing tr e rs with
  | nil => cases h; exact ⟨rfl, rfl⟩
  | cons o l ih =>
    rw [regRun_cons] at h
    cases hw : wantedT ops (tmG tr) o with
    | false =>
      rw [hw] at h
      simp only [cond_false] at h
      split at h
      · split at h
        · rename_i hr; cases h; exact ⟨rfl, by simp [(ih hr).2]⟩
        · cases h
      · cases h
    | true =>
      rw [hw] at h
      simp only [cond_true] at h
      cases hk : opndOk G o with
      | false => rw [hk] at h; cases h
      | true =>
        rw [hk] at h
        simp only [cond_true] at h
        split at h
        · split at h
          · split at h
            · rename_i hr; cases h; exact ⟨rfl, by simp [(ih hr).2]⟩
            · cases h
          · cases h
        · cases h
section
variable {ops : Array Oper} {bf : List Nat}
theorem chkText_at (h : chkText G nt ops bf = true) {j : Nat} {o : Oper} (ho : ops[j]? = some o) :
    (∀ e ∈ o.after, Region.binds .any e = true → e.on < j) ∧ (∀ d, o.dst = some d → d < nt ∧ wrOf ops d = some j) ∧
    (∀ t ∈ o.looksAt ops, ∀ i, wrOf ops t = some i → (i < j → (bf.getD j 0).testBit i = true) ∧ (j < i → (bf.getD i 0).testBit j = true)) ∧
    (∀ g w, o.guard = some (g, w) → g < j ∧ ((ops[g]?).bind (·.dst)).isSome = true) ∧ opndOk G o = true := by
  have hj : j < ops.size := (Array.getElem?_eq_some_iff.1 ho).1
  have := List.all_eq_true.1 h j (List.mem_range.2 hj)
  simp only [ho, Bool.and_eq_true] at this
  obtain ⟨⟨⟨⟨h1, h2⟩, h3⟩, h4⟩, h5⟩ := this
  refine ⟨fun e he hb => ?_, fun d hd => ?_, fun t ht i hi => ?_, fun g w hg => ?_, h5⟩
  · have := Array.all_eq_true_iff_forall_mem.1 ((allA_eq _ _).symm.trans h1) e he
    simpa [hb, Nat.blt_eq] using this
  · rw [hd] at h2
    simpa [Nat.blt_eq] using h2
  · have := List.all_eq_true.1 h3 t ht
    rw [hi] at this
    simp only [Bool.and_eq_true, Bool.or_eq_true, Bool.not_eq_true'] at this
    refine ⟨fun hl => this.1.resolve_left ?_, fun hl => this.2.resolve_left ?_⟩
    · intro hb; have : Nat.blt i j = true := by rw [Nat.blt_eq]; exact hl
      rw [this] at hb; cases hb
    · intro hb; have : Nat.blt j i = true := by rw [Nat.blt_eq]; exact hl
      rw [this] at hb; cases hb
  · rw [hg] at h4
    simpa [Nat.blt_eq] using h4
theorem wrOf_some {t i : Nat} (h : wrOf ops t = some i) : ∃ o, ops[i]? = some o ∧ o.dst = some t := by
  unfold wrOf at h
  rw [List.findIdx?_eq_some_iff_getElem] at h
  obtain ⟨hi, h1, _⟩ := h
  exact ⟨ops.toList[i], by simp [show i < ops.size by simpa using hi], by simpa using h1⟩
theorem tm_succ (h : chkText G nt ops bf = true) {ta : Nat → Value} {rs : List (Rec × EM)} {e2 : EM} {j : Nat} {o : Oper} (ho : ops[j]? = some o) :
    (mkRun G P ops ta nt rs e2).tm (j + 1) = match o.dst with | some d => upd ((mkRun G P ops ta nt rs e2).tm j) d ((mkRun G P ops ta nt rs e2).val j) | none => (mkRun G P ops ta nt rs e2).tm j := by
  obtain ⟨_, h2, _⟩ := chkText_at h ho
  funext t
  unfold Run.tm
  show (match wrOf ops t with | some i => _ | none => _) = _
  cases hw : wrOf ops t with
  | none =>
    cases hd : o.dst with
    | none => simp only; show _ = (match wrOf ops t with | some i => _ | none => _); rw [hw]
    | some d =>
      have : t ≠ d := fun e => by rw [e, (h2 d hd).2] at hw; cases hw
      simp only [upd, this, if_false]
      show _ = (match wrOf ops t with | some i => _ | none => _)
      rw [hw]
  | some i =>
    by_cases hij : i = j
    · subst hij
      obtain ⟨oi, hoi, hdi⟩ := wrOf_some hw
      rw [ho] at hoi
      cases hoi
      simp [hdi, upd]
    · have key : (i < j + 1) ↔ i < j := by omega
      simp only [key]
      cases hd : o.dst with
      | none => simp only; show _ = (match wrOf ops t with | some i => _ | none => _); rw [hw]
      | some d =>
        have : t ≠ d := fun e => by
          rw [e, (h2 d hd).2] at hw
          cases hw
          exact hij rfl
        simp only [upd, this, if_false]
        show _ = (match wrOf ops t with | some i => _ | none => _)
        rw [hw]
/-- What the records say, one by one. -/
theorem regRun_ops {D : Doer} (hD : D.Right G P) (hc : chkText G nt ops bf = true) {ta : Nat → Value} {rs0 : List (Rec × EM)} {e20 : EM} : ∀ (l : List Oper) (j : Nat) (tr : T Value) (e : EM) (rs : List (Rec × EM)) (tr2 : T Value), ops.toList.drop j = l → rs0.drop j = rs → regRun D G P nt ops l tr e = some (rs, tr2, e20) → rs0.length = ops.size → tmG tr = (mkRun G P ops ta nt rs0 e20).tm j →
    (∀ k o, j ≤ k → ops[k]? = some o → ((mkRun G P ops ta nt rs0 e20).wanted k o = false ∧ (mkRun G P ops ta nt rs0 e20).did k = .skip ∧ (mkRun G P ops ta nt rs0 e20).mem (k + 1) = (mkRun G P ops ta nt rs0 e20).mem k) ∨
      ((mkRun G P ops ta nt rs0 e20).wanted k o = true ∧ ((mkRun G P ops ta nt rs0 e20).did k).Right G P o (oper2 ((mkRun G P ops ta nt rs0 e20).tm k)) ((mkRun G P ops ta nt rs0 e20).mem k) ((mkRun G P ops ta nt rs0 e20).mem (k + 1)))) ∧ tmG tr2 = (mkRun G P ops ta nt rs0 e20).tm ops.size := by
  intro l
  induction l with
  | nil =>
    intro j tr e rs tr2 hj hrs h hlen htm
    cases h
    have hjn : ops.size ≤ j := by have := congrArg List.length hj; simp at this; omega
    have : (mkRun G P ops ta nt rs0 e20).tm ops.size = (mkRun G P ops ta nt rs0 e20).tm j := by
      funext t
      unfold Run.tm
      show (match wrOf ops t with | some i => _ | none => _) = (match wrOf ops t with | some i => _ | none => _)
      cases hw : wrOf ops t with
      | none => rfl
      | some i =>
        obtain ⟨oi, hoi, _⟩ := wrOf_some hw
        have hi := (Array.getElem?_eq_some_iff.1 hoi).1
        simp only [hi, show i < j by omega, if_true]
    refine ⟨fun k o hk ho => ?_, by rw [this]; exact htm⟩
    have := (Array.getElem?_eq_some_iff.1 ho).1
    omega
  | cons o l ih =>
    intro j tr e rs tr2 hj hrs h hlen htm
    have hjo : ops[j]? = some o := by
      have := congrArg List.head? hj
      rw [List.head?_drop] at this
      simpa using this
    have hj' : ops.toList.drop (j + 1) = l := by have := congrArg List.tail hj; simpa using this
    have mem_at : ∀ {r : Rec} {e' : EM} {rest : List (Rec × EM)}, rs = (r, e') :: rest → (mkRun G P ops ta nt rs0 e20).did j = r ∧ (mkRun G P ops ta nt rs0 e20).mem j = e'.mem := fun {r e' rest} hr => by
      have hg : rs0[j]? = some (r, e') := by
        have := congrArg List.head? hrs
        rw [List.head?_drop, hr] at this
        simpa using this
      simp [mkRun, hg]
    have mem_next : ∀ {tr1 tr2' : T Value} {e1 : EM} {rest : List (Rec × EM)}, rs0.drop (j + 1) = rest → regRun D G P nt ops l tr1 e1 = some (rest, tr2', e20) → (mkRun G P ops ta nt rs0 e20).mem (j + 1) = e1.mem := fun {tr1 tr2' e1 rest} hd hr => by
      have hh := (regRun_head hr).1
      cases rest with
      | nil =>
        have hg : rs0[j + 1]? = none := by
          have := congrArg List.head? hd
          rw [List.head?_drop] at this
          simpa using this
        simp only at hh
        simp [mkRun, hg, hh]
      | cons x xs =>
        obtain ⟨rx, ex⟩ := x
        have hg : rs0[j + 1]? = some (rx, ex) := by
          have := congrArg List.head? hd
          rw [List.head?_drop] at this
          simpa using this
        simp only at hh
        simp [mkRun, hg, hh]
    have tm_next : ∀ {tr1 : T Value} {v : Value}, putDst nt tr v o.dst = some tr1 → (mkRun G P ops ta nt rs0 e20).val j = v → tmG tr1 = (mkRun G P ops ta nt rs0 e20).tm (j + 1) := fun {tr1 v} hp hv => by
      rw [tm_succ hc hjo, hv]
      cases hd : o.dst with
      | none => rw [hd] at hp; cases hp; exact htm
      | some d =>
        rw [hd] at hp
        simp only [putDst] at hp
        cases hb : Nat.blt d nt with
        | false => rw [hb] at hp; cases hp
        | true => rw [hb] at hp; cases hp; rw [tmG_put, htm]
    have hwt : ∀ k : Nat, (mkRun G P ops ta nt rs0 e20).wanted k o = wantedT ops ((mkRun G P ops ta nt rs0 e20).tm k) o := fun _ => rfl
    rw [regRun_cons] at h
    cases hw : wantedT ops (tmG tr) o with
    | false =>
      rw [hw] at h
      simp only [cond_false] at h
      split at h
      · rename_i tr1 hp
        split at h
        · rename_i rs' tr2' e2' hr
          cases h
          obtain ⟨hdid, hmem⟩ := mem_at rfl
          have hdr : rs0.drop (j + 1) = rs' := by have := congrArg List.tail hrs; simpa using this
          obtain ⟨g1, g2⟩ := ih (j + 1) tr1 e rs' tr2 hj' hdr hr hlen (tm_next hp (by unfold Run.val; rw [hdid]; rfl))
          refine ⟨fun k o' hk ho' => ?_, g2⟩
          rcases Nat.lt_or_ge j k with h1 | h1
          · exact g1 k o' h1 ho'
          · obtain rfl : k = j := by omega
            rw [hjo] at ho'
            cases ho'
            exact .inl ⟨by rw [hwt, ← htm]; exact hw, hdid, by rw [mem_next hdr hr, hmem]⟩
        · cases h
      · cases h
    | true =>
      rw [hw] at h
      simp only [cond_true] at h
      cases hk : opndOk G o with
      | false => rw [hk] at h; cases h
      | true =>
        rw [hk] at h
        simp only [cond_true] at h
        split at h
        · rename_i r e1 hop
          split at h
          · rename_i tr1 hp
            split at h
            · rename_i rs' tr2' e2' hr
              cases h
              obtain ⟨hdid, hmem⟩ := mem_at rfl
              have hdr : rs0.drop (j + 1) = rs' := by have := congrArg List.tail hrs; simpa using this
              obtain ⟨g1, g2⟩ := ih (j + 1) tr1 e1 rs' tr2 hj' hdr hr hlen (tm_next hp (by unfold Run.val; rw [hdid, hmem]))
              refine ⟨fun k o' hk' ho' => ?_, g2⟩
              rcases Nat.lt_or_ge j k with h1 | h1
              · exact g1 k o' h1 ho'
              · obtain rfl : k = j := by omega
                rw [hjo] at ho'
                cases ho'
                refine .inr ⟨by rw [hwt, ← htm]; exact hw, ?_⟩
                rw [hdid, hmem, mem_next hdr hr, ← htm]
                exact opRun_right hD (fun _ => rfl) hop
            · cases h
          · cases h
        · cases h
end
end Go.Proofs.YthemeeiedlbhkaaGreatDoor
