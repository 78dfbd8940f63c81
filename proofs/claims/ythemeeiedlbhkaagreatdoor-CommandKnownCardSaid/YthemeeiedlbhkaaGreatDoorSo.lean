/-
  Regions whose order is open: the checks suffice. Over any program. Conditions: none.
-/
import Derived.Test.YthemeeiedlbhkaaGreatDoorSn
namespace Go.Proofs.YthemeeiedlbhkaaGreatDoor
variable {P : Program} {G : Nat} {nt : Nat} {ops : Array Oper} {bf : List Nat}

/-- The stages: where an effect comes next, and what lies there; and the end. -/
noncomputable def stagesE : List (Rec × EM) → Nat → Nat → EM → List (Nat × EM)
  | [], _, n, e2 => [(n, e2)]
  | (r, e) :: l, j, n, e2 => cond r.isE ((j, e) :: stagesE l (j + 1) n e2) (stagesE l (j + 1) n e2)
theorem stagesE_end (n : Nat) (e2 : EM) : ∀ (l : List (Rec × EM)) (j : Nat), (n, e2) ∈ stagesE l j n e2
  | [], j => by simp [stagesE]
  | (r, e) :: l, j => by
    simp only [stagesE]
    cases r.isE
    · exact stagesE_end n e2 l (j + 1)
    · exact List.mem_cons_of_mem _ (stagesE_end n e2 l (j + 1))
theorem stagesE_at {n : Nat} {e2 : EM} : ∀ (l : List (Rec × EM)) (j k : Nat) (r : Rec) (e : EM), l[k]? = some (r, e) → r.isE = true → (j + k, e) ∈ stagesE l j n e2
  | [], j, k, r, e, h, _ => by simp at h
  | (r0, e0) :: l, j, 0, r, e, h, hr => by
    simp at h
    obtain ⟨rfl, rfl⟩ := h
    simp [stagesE, hr]
  | (r0, e0) :: l, j, k + 1, r, e, h, hr => by
    have := stagesE_at (n := n) (e2 := e2) l (j + 1) k r e (by simpa using h) hr
    rw [show j + 1 + k = j + (k + 1) by omega] at this
    simp only [stagesE]
    cases r0.isE
    · exact this
    · exact List.mem_cons_of_mem _ this
/-- May operation j come up while J is next? -/
def mayMeet (bf : List Nat) (em n j J : Nat) : Bool := (List.range n).all fun e => !em.testBit e || (if e < J then !(bf.getD e 0).testBit j else !(bf.getD j 0).testBit e)
noncomputable def sameRow (e : EM) (b : Nat) (r : Row) : Bool := match e.mem.get b with | some (.row r') => eqL r'.cs r.cs && (r'.t == r.t && r'.g == r.g) | _ => false
def upperFixed (bf : List Nat) (em n j : Nat) : Bool := match firstE em n (n - j) (j + 1) with | none => true | some i => (bf.getD i 0).testBit j
noncomputable def chkDyn (bf : List Nat) (em n : Nat) (st : List (Nat × EM)) : List (Rec × EM) → Nat → Bool
  | [], _ => true
  | (r, e) :: l, j => (match r with
      | .load b _ _ _ => fixedAt bf em n j || (match e.mem.get b with | some (.row r) => st.all fun s => !mayMeet bf em n j s.1 || sameRow s.2 b r | _ => false)
      | .make x _ => upperFixed bf em n j || (match x with | .row r => st.all fun s => !(Nat.blt j s.1 && mayMeet bf em n j s.1) || sameRow s.2 e.next r | _ => false)
      | _ => true) && chkDyn bf em n st l (j + 1)
theorem chkDyn_at {em n : Nat} {st : List (Nat × EM)} : ∀ (l : List (Rec × EM)) (m j : Nat) (r : Rec) (e : EM), chkDyn bf em n st l m = true → l[j]? = some (r, e) → (match r with
      | .load b _ _ _ => fixedAt bf em n (m + j) || (match e.mem.get b with | some (.row r) => st.all fun s => !mayMeet bf em n (m + j) s.1 || sameRow s.2 b r | _ => false)
      | .make x _ => upperFixed bf em n (m + j) || (match x with | .row r => st.all fun s => !(Nat.blt (m + j) s.1 && mayMeet bf em n (m + j) s.1) || sameRow s.2 e.next r | _ => false)
      | _ => true) = true
  | [], m, j, r, e, _, h => by simp at h
  | (r0, e0) :: l, m, 0, r, e, h, hj => by
    simp at hj
    obtain ⟨rfl, rfl⟩ := hj
    simp only [chkDyn, Bool.and_eq_true] at h
    simpa using h.1
  | (r0, e0) :: l, m, j + 1, r, e, h, hj => by
    simp only [chkDyn, Bool.and_eq_true] at h
    have := chkDyn_at l (m + 1) j r e h.2 (by simpa using hj)
    rw [show m + 1 + j = m + (j + 1) by omega] at this
    simpa using this
theorem Pre.trans {i k j : Nat} (h : Pre ops i k) (h' : Pre ops k j) : Pre ops i j := by
  induction h' with
  | one ho he hb hk => exact .two ho he hb hk h
  | two ho he hb hk _ ih => exact .two ho he hb hk ih
theorem sameRow_get {e : EM} {b : Nat} {r : Row} (h : sameRow e b r = true) : e.mem.get b = some (.row r) := by
  unfold sameRow at h
  split at h
  · rename_i r' hr
    simp only [Bool.and_eq_true, beq_iff_eq] at h
    rw [hr]
    have h1 := eqL_eq _ _ h.1
    cases r'
    cases r
    simp only at h1 h
    rw [h1, h.2.1, h.2.2]
  · cases h
theorem run_ok {D : Doer} (hD : D.Right G P) {tr tr2 : T Value} {e e2 : EM} {rs : List (Rec × EM)} (hbf : bf = masks ops.toList []) (hc : chkText G nt ops bf = true) (hr : regRun D G P nt ops ops.toList tr e = some (rs, tr2, e2)) (he : chkEff bf (effMask rs 0) ops.size = true) (hd : chkDyn bf (effMask rs 0) ops.size (stagesE rs 0 ops.size e2) rs 0 = true) (hG : G ≤ e.mem.next) :
    (mkRun G P ops (tmG tr) nt rs e2).Ok ∧ (mkRun G P ops (tmG tr) nt rs e2).mem 0 = e.mem ∧ (mkRun G P ops (tmG tr) nt rs e2).mem ops.size = e2.mem ∧ (mkRun G P ops (tmG tr) nt rs e2).tm ops.size = tmG tr2 := by
  obtain ⟨hhead, hlen⟩ := regRun_head hr
  have hlen' : rs.length = ops.size := by simpa using hlen
  have bit : ∀ k i, (bf.getD k 0).testBit i = true → Pre ops i k := by
    rw [hbf]
    exact masks_pre ops.toList [] 0 rfl rfl (by simp)
  have htm0 : tmG tr = (mkRun G P ops (tmG tr) nt rs e2).tm 0 := by
    funext t
    unfold Run.tm
    show _ = (match wrOf ops t with | some i => _ | none => _)
    cases wrOf ops t <;> simp
  obtain ⟨hops, htm⟩ := regRun_ops hD hc (ta := tmG tr) (rs0 := rs) (e20 := e2) ops.toList 0 tr e rs tr2 rfl rfl hr hlen' htm0
  have mem0 : (mkRun G P ops (tmG tr) nt rs e2).mem 0 = e.mem := by
    cases rs with
    | nil => simp only at hhead; simp [mkRun, hhead]
    | cons x xs => obtain ⟨r, e'⟩ := x; simp only at hhead; simp [mkRun, hhead]
  have memn : (mkRun G P ops (tmG tr) nt rs e2).mem ops.size = e2.mem := by
    have : rs[ops.size]? = none := List.getElem?_eq_none (by omega)
    simp [mkRun, this]
  have isE : ∀ j, ((mkRun G P ops (tmG tr) nt rs e2).did j).isE = (effMask rs 0).testBit j := fun j => by
    rw [effMask_bit]
    simp only [Nat.zero_le, decide_true, Bool.true_and, Nat.sub_zero]
    simp only [mkRun]
    cases rs[j]? with
    | none => rfl
    | some x => rfl
  generalize hR : mkRun G P ops (tmG tr) nt rs e2 = R at hops htm mem0 memn isE
  have hwr : R.wr = wrOf ops := by rw [← hR]; rfl
  have did_at : ∀ j r e', rs[j]? = some (r, e') → R.did j = r ∧ R.mem j = e'.mem := fun j r e' h => by rw [← hR]; simp [mkRun, h]
  -- the effects are in order
  have ord : ∀ j i, i < j → j < ops.size → (R.did i).isE = true → (R.did j).isE = true → Pre ops i j := by
    intro j
    induction j using Nat.strongRecOn with
    | _ j ih =>
      intro i hij hj hi hj'
      have := List.all_eq_true.1 he j (List.mem_range.2 hj)
      rw [isE] at hj' hi
      rw [hj'] at this
      simp only [Bool.not_true, Bool.false_or] at this
      split at this
      · rename_i hn
        have := lastE_none hn i hij
        rw [this] at hi
        cases hi
      · rename_i i' hl
        obtain ⟨g1, g2, g3⟩ := lastE_spec hl
        have hp := bit _ _ this
        rcases Nat.lt_trichotomy i i' with h1 | h1 | h1
        · exact (ih i' g1 i h1 (by omega) (by rw [isE]; exact hi) (by rw [isE]; exact g2)).trans hp
        · rw [h1]; exact hp
        · have := g3 i h1 hij
          rw [this] at hi
          cases hi
  -- memory of a stage
  have stage_mem : ∀ J, R.Stage J → ∃ e', (J, e') ∈ stagesE rs 0 ops.size e2 ∧ R.mem J = e'.mem := fun J hJ => by
    rcases hJ with rfl | ⟨h1, h2⟩
    · exact ⟨e2, stagesE_end _ _ _ _, memn⟩
    · have hlt : J < rs.length := by omega
      obtain ⟨g1, g2⟩ := did_at J rs[J].1 rs[J].2 (by simp [hlt])
      refine ⟨rs[J].2, ?_, g2⟩
      have := stagesE_at (n := ops.size) (e2 := e2) rs 0 J rs[J].1 rs[J].2 (by simp [hlt]) (by rw [← g1]; exact h2)
      simpa using this
  have meets : ∀ j J, R.Meets j J → mayMeet bf (effMask rs 0) ops.size j J = true := fun j J ⟨_, h1, h2⟩ => by
    unfold mayMeet
    rw [List.all_eq_true]
    intro e he
    have he := List.mem_range.1 he
    simp only [Bool.or_eq_true, Bool.not_eq_true']
    cases hE : (effMask rs 0).testBit e with
    | false => exact .inl rfl
    | true =>
      refine .inr ?_
      have hE' : (R.did e).isE = true := by rw [isE]; exact hE
      split
      · rename_i hlt
        cases hb : (bf.getD e 0).testBit j with
        | false => rfl
        | true => exact absurd (bit _ _ hb) (h1 e hlt hE')
      · rename_i hlt
        cases hb : (bf.getD j 0).testBit e with
        | false => rfl
        | true => exact absurd (h2 e he hE' (bit _ _ hb)) hlt
  -- steps without effects leave what lies there
  have step : ∀ k, k < ops.size → (R.did k).isE = false → R.mem (k + 1) = R.mem k ∨ ∃ x fm, R.did k = .make x fm ∧ R.mem (k + 1) = (R.mem k).push x := fun k hk hn => by
    rcases hops k ops[k] (Nat.zero_le _) (by simp [hk]) with ⟨_, _, h⟩ | ⟨_, h⟩
    · exact .inl h
    · cases hd : R.did k <;> rw [hd] at h hn <;> simp only [Rec.Right, Rec.isE] at h hn
      · exact .inl h.2
      · exact .inl h.2.1
      · exact .inr ⟨_, _, rfl, h.2⟩
      · cases hn
  have calm : ∀ (d j : Nat), j + d ≤ ops.size → (∀ k, j ≤ k → k < j + d → (R.did k).isE = false) → ∀ b, b < (R.mem j).next → (R.mem (j + d)).get b = (R.mem j).get b ∧ b < (R.mem (j + d)).next := by
    intro d
    induction d with
    | zero => intro j _ _ b hb; exact ⟨rfl, hb⟩
    | succ d ih =>
      intro j hj hn b hb
      obtain ⟨h1, h2⟩ := ih j (by omega) (fun k a c => hn k a (by omega)) b hb
      rcases step (j + d) (by omega) (hn _ (by omega) (by omega)) with h | ⟨x, fm, _, h⟩
      · rw [show j + (d + 1) = j + d + 1 by omega, h]; exact ⟨h1, h2⟩
      · rw [show j + (d + 1) = j + d + 1 by omega, h, Mem.push_get, if_neg (by omega)]
        exact ⟨h1, by simp [Mem.push]; omega⟩
  -- the natural stage
  have natural : ∀ j J, j < ops.size → (R.did j).isE = false → upperFixed bf (effMask rs 0) ops.size j = true → j < J → R.Meets j J → ∀ k, j ≤ k → k < J → (R.did k).isE = false := fun j J hj hjE hu hjJ hM k hk1 hk2 => by
    obtain ⟨hSt, hM1, hM2⟩ := hM
    have hJn : J ≤ ops.size := by rcases hSt with h | h <;> omega
    cases hkE : (R.did k).isE with
    | false => rfl
    | true =>
      exfalso
      have hjk : j < k := by
        rcases Nat.lt_or_ge j k with h | h
        · exact h
        · obtain rfl : k = j := by omega
          rw [hjE] at hkE; cases hkE
      unfold upperFixed at hu
      split at hu
      · rename_i hn
        have := firstE_none (by omega) hn k (by omega) (by omega)
        rw [← isE, hkE] at this
        cases this
      · rename_i i hf
        obtain ⟨g1, g2, g3, g4⟩ := firstE_spec hf
        have hik : i ≤ k := by
          rcases Nat.lt_or_ge k i with h | h
          · have := g4 k (by omega) h
            rw [← isE, hkE] at this
            cases this
          · exact h
        exact hM1 i (by omega) (by rw [isE]; exact g3) (bit _ _ hu)
  refine ⟨⟨fun t i => ?_, fun j o ho => (chkText_at hc ho).1, fun j o t i ho ht hi => ?_, fun j o d ho hdst => ((chkText_at hc ho).2.1 d hdst).1, fun j o g w ho hg => ?_, fun i j hij hj hi hj' => ord j i hij hj hi hj', by rw [mem0]; exact hG, fun j o v ho hv μ => ?_, fun j o g ho hg => ?_, fun j o ho => ?_⟩, mem0, memn, htm.symm⟩
  · rw [hwr]
    exact ⟨wrOf_some, fun ⟨o, ho, hdst⟩ => ((chkText_at hc ho).2.1 t hdst).2⟩
  · rw [hwr] at hi
    obtain ⟨h1, h2⟩ := (chkText_at hc ho).2.2.1 t ht i hi
    exact ⟨fun h => bit _ _ (h1 h), fun h => bit _ _ (h2 h)⟩
  · obtain ⟨h1, h2⟩ := (chkText_at hc ho).2.2.2.1 g w hg
    cases hog : ops[g]? with
    | none => rw [hog] at h2; cases h2
    | some og =>
      rw [hog] at h2
      cases hdd : og.dst with
      | none => simp [hdd] at h2
      | some d => exact ⟨og, d, rfl, hdd, h1⟩
  · have := Array.all_eq_true_iff_forall_mem.1 ((allA_eq _ _).symm.trans (chkText_at hc ho).2.2.2.2) _ hv
    exact closedV_rel μ 3 v this
  · have := Array.all_eq_true_iff_forall_mem.1 ((allA_eq _ _).symm.trans (chkText_at hc ho).2.2.2.2) _ hg
    have h0 : cond (Nat.blt g 64) (Nat.blt g G) false = true := this
    exact (glob_ok h0).symm
  · have hjn : j < ops.size := (Array.getElem?_eq_some_iff.1 ho).1
    have hlt : j < rs.length := by omega
    obtain ⟨hdj, hmj⟩ := did_at j rs[j].1 rs[j].2 (by simp [hlt])
    have hdyn := chkDyn_at rs 0 j rs[j].1 rs[j].2 hd (by simp [hlt])
    rw [← hdj, Nat.zero_add] at hdyn
    rcases hops j o (Nat.zero_le _) ho with h | ⟨hw, hright⟩
    · exact .inl h
    · refine .inr ⟨hw, ?_⟩
      cases hrec : R.did j with
      | skip => rw [hrec] at hright; exact hright
      | val v => rw [hrec] at hright; exact hright
      | load b off cs v =>
        rw [hrec] at hright hdyn
        obtain ⟨h1, h2, h3, r, hr', hcs⟩ := hright
        have hjE : (R.did j).isE = false := by rw [hrec]; rfl
        refine ⟨h1, h2, h3, Mem.lt hr', fun J hM => ?_⟩
        simp only [Bool.or_eq_true] at hdyn
        rcases hdyn with hfix | hsame
        · unfold fixedAt at hfix
          simp only [Bool.and_eq_true] at hfix
          have hjJ : j < J := by
            rcases Nat.lt_or_ge j J with h | h
            · exact h
            · exfalso
              obtain ⟨hSt, hM1, hM2⟩ := hM
              rcases hSt with h' | ⟨hJ1, hJ2⟩
              · omega
              · have hJj : J ≠ j := fun e => by rw [e, hjE] at hJ2; cases hJ2
                have hf1 := hfix.1
                split at hf1
                · rename_i hn
                  have := lastE_none hn J (by omega)
                  rw [← isE, hJ2] at this
                  cases this
                · rename_i i hl
                  obtain ⟨g1, g2, g3⟩ := lastE_spec hl
                  have hJi : J ≤ i := by
                    rcases Nat.lt_or_ge i J with h' | h'
                    · have := g3 J h' (by omega)
                      rw [← isE, hJ2] at this
                      cases this
                    · exact h'
                  have := hM2 i (by omega) (by rw [isE]; exact g2) (bit _ _ hf1)
                  omega
          have hnat := natural j J hjn hjE hfix.2 hjJ hM
          have hJn : J ≤ ops.size := by rcases hM.1 with h | h <;> omega
          obtain ⟨g1, g2⟩ := calm (J - j) j (by omega) (fun k a c => hnat k a (by omega)) b (Mem.lt hr')
          rw [show j + (J - j) = J by omega] at g1 g2
          refine ⟨r, ?_, hcs⟩
          unfold Run.at_
          rw [if_pos g2, g1, hr']
        · rw [hmj] at hr'
          rw [hr'] at hsame
          obtain ⟨e', he', hmJ⟩ := stage_mem J hM.1
          have hk := List.all_eq_true.1 hsame _ he'
          simp only [meets j J hM, Bool.not_true, Bool.false_or] at hk
          have hg := sameRow_get hk
          rw [← hmJ] at hg
          refine ⟨r, ?_, hcs⟩
          unfold Run.at_
          rw [if_pos (Mem.lt hg), hg]
      | make x fm =>
        rw [hrec] at hright hdyn
        obtain ⟨h1, h2⟩ := hright
        have hjE : (R.did j).isE = false := by rw [hrec]; rfl
        refine ⟨h1, h2, fun J hjJ hM => ?_⟩
        simp only [Bool.or_eq_true] at hdyn
        have hJn : J ≤ ops.size := by rcases hM.1 with h | h <;> omega
        rcases hdyn with hfix | hsame
        · have hnat := natural j J hjn hjE hfix hjJ hM
          have hget : (R.mem (j + 1)).get (R.mem j).next = some x := by rw [h2, Mem.push_get, if_pos rfl]
          obtain ⟨g1, _⟩ := calm (J - (j + 1)) (j + 1) (by omega) (fun k a c => hnat k (by omega) (by omega)) (R.mem j).next (by rw [h2]; simp [Mem.push])
          rw [show j + 1 + (J - (j + 1)) = J by omega] at g1
          rw [g1, hget]
        · split at hsame
          · obtain ⟨e', he', hmJ⟩ := stage_mem J hM.1
            have hk := List.all_eq_true.1 hsame _ he'
            have hb : Nat.blt j J = true := by rw [Nat.blt_eq]; exact hjJ
            simp only [meets j J hM, hb, Bool.and_self, Bool.not_true, Bool.false_or] at hk
            have hg := sameRow_get hk
            rw [hmJ, hmj]
            exact hg
          · cases hsame
      | eff v => rw [hrec] at hright; exact hright
end Go.Proofs.YthemeeiedlbhkaaGreatDoor
