/-
  A call's contract over the part of the second memory that it reaches, and what it leaves of the rest; steps that are known. Over any program. Conditions: none.
-/
import Derived.Test.YthemeeiedlbhkaaGreatDoorSz
namespace Go.Proofs.YthemeeiedlbhkaaGreatDoor
variable {P : Program} {G : Nat}

/-- A part of a memory. -/
def Sub (τ σ : Mem) : Prop := τ.next = σ.next ∧ ∀ b x, τ.get b = some x → σ.get b = some x
/-- A memory of which a part has turned. -/
def Mem.over (σ τ τ' : Mem) : Mem := ⟨fun b => if b < σ.next then (match τ.get b with | some _ => τ'.get b | none => σ.get b) else τ'.get b, τ'.next⟩
theorem Mem.get_ge {σ : Mem} {b : Nat} (h : σ.next ≤ b) : σ.get b = none := by unfold Mem.get; rw [if_neg (by omega)]
theorem over_low {σ τ τ' : Mem} (hn : σ.next ≤ τ'.next) {b : Nat} (hb : b < σ.next) : (σ.over τ τ').get b = match τ.get b with | some _ => τ'.get b | none => σ.get b := by
  have h1 : b < (σ.over τ τ').next := Nat.lt_of_lt_of_le hb hn
  unfold Mem.get
  rw [if_pos h1]
  show (if b < σ.next then _ else _) = _
  rw [if_pos hb]
  rfl
theorem over_high {σ τ τ' : Mem} {b : Nat} (hb : σ.next ≤ b) : (σ.over τ τ').get b = τ'.get b := by
  rcases Nat.lt_or_ge b τ'.next with h | h
  · have h1 : b < (σ.over τ τ').next := h
    show (if b < (σ.over τ τ').next then (if b < σ.next then _ else τ'.get b) else none) = _
    rw [if_pos h1, if_neg (by omega)]
  · rw [Mem.get_ge (σ := σ.over τ τ') h, Mem.get_ge h]
theorem Sim.sub {μ : Mu} {σ τ : Mem} {w : World} (h : Sim G μ σ w) (hs : Sub τ σ) : Sim G μ τ w :=
  ⟨h.glob, fun b x bi hx => h.blk b x bi (hs.2 b x hx), fun b b' x x' bi bi' hx hx' => h.inj b b' x x' bi bi' (hs.2 b x hx) (hs.2 b' x' hx'), fun b x bi hG hx => h.rw_ b x bi hG (hs.2 b x hx)⟩
theorem Stp.frame {μ μ' : Mu} {σ τ τ' : Mem} {w w' : World} (hs : Sim G μ σ w) (hsub : Sub τ σ) (h : Stp G τ μ w τ' μ' w') : Stp G σ μ w (σ.over τ τ') μ' w' := by
  have hn : σ.next ≤ τ'.next := hsub.1 ▸ h.next
  have hlow : ∀ b, b < σ.next → μ' b = μ b := fun b hb => h.ext b (.inl (by rw [hsub.1]; exact hb))
  -- of either kind
  have kind : ∀ b x, (σ.over τ τ').get b = some x → (τ'.get b = some x ∧ (b < σ.next → ∃ y, τ.get b = some y)) ∨ (b < σ.next ∧ τ.get b = none ∧ σ.get b = some x) := fun b x hx => by
    rcases Nat.lt_or_ge b σ.next with hb | hb
    · rw [over_low hn hb] at hx
      split at hx
      · rename_i y hy; exact .inl ⟨hx, fun _ => ⟨y, hy⟩⟩
      · rename_i hy; exact .inr ⟨hb, hy, hx⟩
    · rw [over_high hb] at hx
      exact .inl ⟨hx, fun h => absurd h (by omega)⟩
  have apart : ∀ b x bi b' x' bi', τ'.get b = some x → (b < σ.next → ∃ y, τ.get b = some y) → μ' b = some bi → b' < σ.next → τ.get b' = none → σ.get b' = some x' → μ' b' = some bi' → (G ≤ b ∨ G ≤ b') → bi.blk ≠ bi'.blk := fun b x bi b' x' bi' hx hy hm hb' hn' hx' hm' hor e => by
    rw [hlow b' hb'] at hm'
    have key : ∀ b0 x0 bi0, τ.get b0 = some x0 → μ b0 = some bi0 → bi0.blk = bi'.blk → (G ≤ b0 ∨ G ≤ b') → False := fun b0 x0 bi0 h1 h2 h3 h4 => by
      have := hs.inj b0 b' x0 x' bi0 bi' (hsub.2 _ _ h1) hx' h2 hm' h3 h4
      rw [this, hn'] at h1
      cases h1
    rcases Nat.lt_or_ge b σ.next with hb | hb
    · obtain ⟨y, hy⟩ := hy hb
      rw [hlow b hb] at hm
      exact key b y bi hy hm e hor
    · rcases h.new b x bi (by rw [hsub.1]; exact hb) hx hm with h1 | ⟨b0, x0, bi0, g0, h2, h3, h4⟩
      · have := (hs.blk b' x' bi' hx' hm').lt
        omega
      · exact key b0 x0 bi0 h2 h3 (h4.trans e) (.inl g0)
  refine ⟨hn, fun b h1 h2 => h.fresh b (by rw [hsub.1]; exact h1) h2, fun b hb => h.ext b (by rw [hsub.1]; exact hb), ⟨h.sim.glob, fun b x bi hx hm => ?_, fun b b' x x' bi bi' hx hx' hm hm' e => ?_, fun b x bi hG hx hm => ?_⟩, h.size, h.os, h.tape, h.output, fun B hB hk => h.keep B hB fun b x bi hG hx hm => hk b x bi hG (hsub.2 b x hx) hm, fun b x bi hb hx hm => ?_, fun b x hb hx => ?_, hsub.1 ▸ h.low⟩
  · rcases kind b x hx with ⟨h1, _⟩ | ⟨h1, h2, h3⟩
    · exact h.sim.blk b x bi h1 hm
    · rw [hlow b h1] at hm
      have hb := hs.blk b x bi h3 hm
      exact hb.keep (h.keep bi.blk hb.lt fun b0 x0 bi0 g0 hx0 hm0 e => by
        have := hs.inj b0 b x0 x bi0 bi (hsub.2 _ _ hx0) h3 hm0 hm e (.inl g0)
        rw [this, h2] at hx0
        cases hx0) h.extE
  · rcases kind b x hx with ⟨h1, h1'⟩ | ⟨h1, h2, h3⟩
    · rcases kind b' x' hx' with ⟨k1, _⟩ | ⟨k1, k2, k3⟩
      · exact h.sim.inj b b' x x' bi bi' h1 k1 hm hm' e
      · exact fun hor => absurd e (apart b x bi b' x' bi' h1 h1' hm k1 k2 k3 hm' hor)
    · rcases kind b' x' hx' with ⟨k1, k1'⟩ | ⟨k1, k2, k3⟩
      · exact fun hor => absurd e.symm (apart b' x' bi' b x bi k1 k1' hm' h1 h2 h3 hm hor.symm)
      · rw [hlow b h1] at hm
        rw [hlow b' k1] at hm'
        exact hs.inj b b' x x' bi bi' h3 k3 hm hm' e
  · rcases kind b x hx with ⟨h1, _⟩ | ⟨h1, h2, h3⟩
    · exact h.sim.rw_ b x bi hG h1 hm
    · rw [hlow b h1] at hm
      exact hs.rw_ b x bi hG h3 hm
  · rw [over_high hb] at hx
    rcases h.new b x bi (by rw [hsub.1]; exact hb) hx hm with h1 | ⟨b0, x0, bi0, g1, g2, g3, g4⟩
    · exact .inl h1
    · exact .inr ⟨b0, x0, bi0, g1, hsub.2 _ _ g2, g3, g4⟩
  · rcases kind b x hx with ⟨h1, h2⟩ | ⟨_, _, h3⟩
    · obtain ⟨y, hy⟩ := h2 hb
      exact ⟨y, hsub.2 _ _ hy⟩
    · exact ⟨x, h3⟩
theorem Stp.forget {μ μ' : Mu} {σ σ' τ' : Mem} {w w' : World} (h : Stp G σ μ w σ' μ' w') (hs : Sub τ' σ') : Stp G σ μ w τ' μ' w' :=
  ⟨by rw [hs.1]; exact h.next, fun b h1 h2 => h.fresh b h1 (by rw [← hs.1]; exact h2), fun b hb => h.ext b (by rw [← hs.1]; exact hb), h.sim.sub hs, h.size, h.os, h.tape, h.output, h.keep, fun b x bi hb hx => h.new b x bi hb (hs.2 b x hx), fun b x hb hx => h.live b x hb (hs.2 b x hx), h.low⟩
theorem SCall.frame {f : FuncId} {args : Array Value} {σ τ τ' : Mem} {v : Value} (h : SCall G P f args τ v τ') (hsub : Sub τ σ) : SCall G P f args σ v (σ.over τ τ') := by
  refine ⟨by have := h.1; rw [hsub.1] at this; exact this, fun μ w cargs hs hG hf ha => ?_⟩
  refine (h.2 μ w cargs (hs.sub hsub) (by rw [hsub.1]; exact hG) (fun b h1 h2 => hf b (by rw [← hsub.1]; exact h1) h2) ha).mono ?_
  rintro e w' ⟨vc, μ', rfl, hst, hv⟩
  exact ⟨vc, μ', rfl, hst.frame hs hsub, hv⟩
theorem SCall.forget {f : FuncId} {args : Array Value} {σ σ' τ' : Mem} {v : Value} (h : SCall G P f args σ v σ') (hs : Sub τ' σ') : SCall G P f args σ v τ' := by
  refine ⟨by rw [hs.1]; exact h.1, fun μ w cargs hsim hG hf ha => ?_⟩
  refine (h.2 μ w cargs hsim hG (fun b h1 h2 => hf b h1 (by rw [hs.1]; exact h2)) ha).mono ?_
  rintro e w' ⟨vc, μ', rfl, hst, hv⟩
  exact ⟨vc, μ', rfl, hst.forget hs, hv⟩
/-- Blocks alike. -/
def eqE : List (Value × Value) → List (Value × Value) → Bool
  | [], [] => true
  | a :: l, b :: m => eqV 3 a.1 b.1 && eqV 3 a.2 b.2 && eqE l m
  | _, _ => false
theorem eqE_eq : ∀ (a b : List (Value × Value)), eqE a b = true → a = b
  | [], [], _ => rfl
  | a :: l, b :: m, h => by
    simp only [eqE, Bool.and_eq_true] at h
    obtain ⟨a1, a2⟩ := a
    obtain ⟨b1, b2⟩ := b
    rw [show a1 = b1 from eqV_eq 3 _ _ h.1.1, show a2 = b2 from eqV_eq 3 _ _ h.1.2, eqE_eq l m h.2]
  | [], _ :: _, h => by cases h
  | _ :: _, [], h => by cases h
def eqB : Blk2 → Blk2 → Bool
  | .row ⟨cs, t, g⟩, .row ⟨ds, u, k⟩ => cond (Nat.beq t u) (cond (g == k) (eqL cs ds) false) false
  | .ents es c, .ents fs d => cond (Nat.beq c d) (eqE es fs) false
  | _, _ => false
theorem eqB_eq : ∀ {a b : Blk2}, eqB a b = true → a = b
  | .row ⟨cs, t, g⟩, .row ⟨ds, u, k⟩, h => by
    simp only [eqB] at h
    cases h1 : Nat.beq t u with
    | false => rw [h1] at h; cases h
    | true =>
      rw [h1] at h
      simp only [cond_true] at h
      cases h2 : (g == k) with
      | false => rw [h2] at h; cases h
      | true =>
        rw [h2] at h
        rw [eqL_eq _ _ h, Nat.eq_of_beq_eq_true h1, eq_of_beq h2]
  | .ents es c, .ents fs d, h => by
    simp only [eqB] at h
    cases h1 : Nat.beq c d with
    | false => rw [h1] at h; cases h
    | true => rw [h1] at h; rw [eqE_eq _ _ h, Nat.eq_of_beq_eq_true h1]
  | .row _, .iter _ _, h => by cases h
  | .row _, .ents _ _, h => by cases h
  | .row _, .defs _, h => by cases h
  | .row _, .mit _ _ _ _, h => by cases h
  | .row _, .loop .., h => by cases h
  | .iter _ _, _, h => by cases h
  | .ents _ _, .row _, h => by cases h
  | .ents _ _, .iter _ _, h => by cases h
  | .ents _ _, .defs _, h => by cases h
  | .ents _ _, .mit _ _ _ _, h => by cases h
  | .mit _ _ _ _, _, h => by cases h
  | .ents _ _, .loop .., h => by cases h
  | .defs _, _, h => by cases h
  | .loop .., _, h => by cases h
/-- A step that is known: a call, what it reaches, what it answers and leaves. -/
structure Tr where
  f : Nat
  args : List Value
  l0 : List (Nat × Blk2)
  n0 : Nat
  v : Value
  l1 : List (Nat × Option Blk2)
  n1 : Nat
noncomputable def putsL (l : List (Nat × Option Blk2)) (t : T EBlk) : T EBlk := List.rec (motive := fun _ => T EBlk) t (fun x _ ih => ih.put (match x.2 with | some y => some (.b y) | none => none) x.1) l
noncomputable def findB (b : Nat) (l : List (Nat × Option Blk2)) : Option (Option Blk2) := match l with
  | [] => none
  | x :: l => if b = x.1 then some x.2 else findB b l
theorem putsL_get (l : List (Nat × Option Blk2)) (t : T EBlk) (b : Nat) : (putsL l t).get b = match findB b l with | some o => o.map .b | none => t.get b := by
  induction l with
  | nil => rfl
  | cons x l ih =>
    show ((putsL l t).put (match x.2 with | some y => some (.b y) | none => none) x.1).get b = _
    rw [T.get_put, findB]
    by_cases h : b = x.1
    · rw [if_pos h, if_pos h]
      cases x.2 <;> rfl
    · rw [if_neg h, if_neg h, ih]
noncomputable def litE (l : List (Nat × Option Blk2)) (n : Nat) : EM := ⟨putsL l .nil, n⟩
theorem litE_get (l : List (Nat × Option Blk2)) (n b : Nat) : (litE l n).mem.get b = if b < n then (match findB b l with | some o => o | none => none) else none := by
  unfold Mem.get
  show (if b < n then (match (putsL l .nil).get b with | some x => some (toB x) | none => none) else none) = _
  by_cases h : b < n
  · rw [if_pos h, if_pos h, putsL_get]
    cases findB b l with
    | none => rfl
    | some o => cases o <;> rfl
  · rw [if_neg h, if_neg h]
noncomputable def Tr.pre (t : Tr) : EM := litE (t.l0.map fun x => (x.1, some x.2)) t.n0
noncomputable def Tr.post (t : Tr) : EM := litE t.l1 t.n1
noncomputable def Tr.app (t : Tr) (e : EM) : EM := ⟨putsL t.l1 e.m, t.n1⟩
noncomputable def noneFrom (t : T EBlk) (b k : Nat) : Bool := Nat.rec (motive := fun _ => Nat → Bool) (fun _ => true) (fun _ ih b => match t.get b with | none => ih (Nat.add b 1) | some _ => false) k b
theorem noneFrom_at (t : T EBlk) : ∀ (k b : Nat), noneFrom t b k = true → ∀ c, b ≤ c → c < b + k → t.get c = none
  | 0, b, _, c, h1, h2 => by omega
  | k + 1, b, h, c, h1, h2 => by
    have e : noneFrom t b (k + 1) = match t.get b with | none => noneFrom t (b + 1) k | some _ => false := rfl
    rw [e] at h
    split at h
    · rename_i hb
      rcases Nat.lt_or_ge b c with h3 | h3
      · exact noneFrom_at t k (b + 1) h c (by omega) (by omega)
      · obtain rfl : c = b := by omega
        exact hb
    · cases h
/-- Do a list's blocks lie there? -/
noncomputable def liesB (e : EM) (l : List (Nat × Blk2)) : Bool := allR (fun x => match e.mem.get x.1 with | some y => eqB y x.2 | none => false) l
noncomputable def Tr.fits (t : Tr) (e : EM) : Bool := cond (Nat.beq e.next t.n0) (cond (liesB e t.l0) (noneFrom e.m t.n0 (Nat.sub t.n1 t.n0)) false) false
def domB (b : Nat) (l : List Nat) : Bool := l.any (Nat.beq b)
/-- Of the blocks that were there only those named at the start turn, and all of them are named at the end. -/
noncomputable def Tr.wf (t : Tr) : Bool := Nat.ble t.n0 t.n1 && (t.l1.all fun x => Nat.ble t.n0 x.1 || domB x.1 (t.l0.map (·.1))) && (t.l0.all fun x => domB x.1 (t.l1.map (·.1)))
def Tr.Right (t : Tr) (G : Nat) (P : Program) : Prop := t.wf = true ∧ SCall G P t.f t.args.toArray t.pre.mem t.v t.post.mem
theorem findB_some {b : Nat} {o : Option Blk2} : ∀ {l : List (Nat × Option Blk2)}, findB b l = some o → (b, o) ∈ l
  | [], h => by cases h
  | x :: l, h => by
    rw [findB] at h
    split at h
    · rename_i hb; cases h; subst hb; exact List.mem_cons_self
    · exact List.mem_cons_of_mem _ (findB_some h)
theorem findB_none {b : Nat} : ∀ {l : List (Nat × Option Blk2)}, findB b l = none → ∀ o, (b, o) ∉ l
  | [], _, o, h => by cases h
  | x :: l, hn, o, h => by
    rw [findB] at hn
    split at hn
    · cases hn
    · rename_i hb
      rcases List.mem_cons.1 h with h | h
      · subst h; exact hb rfl
      · exact findB_none hn o h
theorem domB_mem {b : Nat} {l : List Nat} (h : domB b l = true) : b ∈ l := by
  unfold domB at h
  obtain ⟨x, h1, h2⟩ := List.any_eq_true.1 h
  rw [Nat.eq_of_beq_eq_true h2]
  exact h1
theorem Tr.call {t : Tr} (ht : t.Right G P) {e : EM} (hf : t.fits e = true) : SCall G P t.f t.args.toArray e.mem t.v (t.app e).mem := by
  obtain ⟨hwf, hc⟩ := ht
  unfold Tr.fits at hf
  cases h1 : Nat.beq e.next t.n0 with
  | false => rw [h1] at hf; cases hf
  | true =>
    rw [h1] at hf
    simp only [cond_true] at hf
    cases h2 : liesB e t.l0 with
    | false => rw [h2] at hf; cases hf
    | true =>
      rw [h2] at hf
      simp only [cond_true] at hf
      have hn0 := Nat.eq_of_beq_eq_true h1
      unfold Tr.wf at hwf
      simp only [Bool.and_eq_true, List.all_eq_true, Bool.or_eq_true] at hwf
      obtain ⟨⟨w1, w2⟩, w3⟩ := hwf
      have w1 : t.n0 ≤ t.n1 := by simpa using w1
      have pre_get : ∀ b, t.pre.mem.get b = if b < t.n0 then (match findB b (t.l0.map fun x => (x.1, some x.2)) with | some o => o | none => none) else none := fun b => litE_get _ _ _
      have hsub : Sub t.pre.mem e.mem := by
        refine ⟨hn0.symm, fun b x hx => ?_⟩
        rw [pre_get] at hx
        split at hx
        · split at hx
          · rename_i o ho
            subst hx
            obtain ⟨y, hy, he⟩ := List.mem_map.1 (findB_some ho)
            cases he
            unfold liesB at h2
            rw [allR_eq] at h2
            have := List.all_eq_true.1 h2 y hy
            split at this
            · rename_i z hz; rw [hz, eqB_eq this]
            · cases this
          · cases hx
        · cases hx
      refine (hc.frame hsub).forget ⟨rfl, fun b x hx => ?_⟩
      have hnx : e.mem.next ≤ t.post.mem.next := by show e.next ≤ t.n1; omega
      have hlt : b < t.n1 := Mem.lt hx
      have hget : (t.app e).mem.get b = match findB b t.l1 with | some o => o | none => (match e.m.get b with | some x => some (toB x) | none => none) := by
        unfold Mem.get
        show (if b < t.n1 then (match (putsL t.l1 e.m).get b with | some x => some (toB x) | none => none) else none) = _
        rw [if_pos hlt, putsL_get]
        cases findB b t.l1 with
        | none => rfl
        | some o => cases o <;> rfl
      rw [hget] at hx
      have hpost : t.post.mem.get b = match findB b t.l1 with | some o => o | none => none := by
        show (litE t.l1 t.n1).mem.get b = _
        rw [litE_get, if_pos hlt]
      rcases Nat.lt_or_ge b t.n0 with hb | hb
      · rw [over_low hnx (by show b < e.next; omega), pre_get, if_pos hb]
        split at hx
        · rename_i o ho
          subst hx
          have hm := findB_some ho
          have hd := w2 _ hm
          have hd : b ∈ t.l0.map (·.1) := by
            rcases hd with h | h
            · have : t.n0 ≤ b := by simpa using h
              omega
            · exact domB_mem h
          obtain ⟨y, hy, hyb⟩ := List.mem_map.1 hd
          cases hfb : findB b (t.l0.map fun x => (x.1, some x.2)) with
          | none => exact absurd (List.mem_map.2 ⟨y, hy, by rw [← hyb]⟩) (findB_none hfb (some y.2))
          | some o' =>
            obtain ⟨z, _, hz⟩ := List.mem_map.1 (findB_some hfb)
            cases hz
            simp only
            rw [hpost, ho]
        · rename_i hno
          cases hfb : findB b (t.l0.map fun x => (x.1, some x.2)) with
          | none =>
            simp only
            show e.mem.get b = _
            unfold Mem.get
            have : b < e.mem.next := by show b < e.next; omega
            rw [if_pos this]
            exact hx
          | some o' =>
            exfalso
            obtain ⟨z, hz1, hz2⟩ := List.mem_map.1 (findB_some hfb)
            cases hz2
            have := domB_mem (w3 _ hz1)
            obtain ⟨y, hy, hyb⟩ := List.mem_map.1 this
            exact findB_none hno y.2 (by rw [← hyb]; exact hy)
      · rw [over_high (by show e.next ≤ b; omega), hpost]
        split at hx
        · exact hx
        · rw [noneFrom_at _ _ _ hf b hb (by have : t.n1.sub t.n0 = t.n1 - t.n0 := rfl; omega)] at hx
          cases hx
end Go.Proofs.YthemeeiedlbhkaaGreatDoor
