/-
  What one operation does in a world and in the second memory beside it. No program of ours in this text: over any program. Conditions: none.
-/
import Derived.Test.YthemeeiedlbhkaaGreatDoorSa
import Derived.OrdersIn
import Derived.RangeFuncLeaves
import Derived.LoopNIn
namespace Go.Proofs.YthemeeiedlbhkaaGreatDoor
variable {P : Program} {G : Nat}

/-- Every machine is let in; the frame may be a round's. -/
abbrev FW (rd : Option Nat) : Fence := { Fence.wide with round := rd }

def Mem.push (σ : Mem) (x : Blk2) : Mem := ⟨fun b => if b = σ.next then some x else σ.raw b, σ.next + 1⟩
def Mem.put (σ : Mem) (b : Nat) (x : Blk2) : Mem := ⟨fun c => if c = b then some x else σ.raw c, σ.next⟩
def Mem.kill (σ : Mem) (b : Nat) : Mem := ⟨fun c => if c = b then none else σ.raw c, σ.next⟩
theorem Mem.push_get (σ : Mem) (x : Blk2) (b : Nat) : (σ.push x).get b = if b = σ.next then some x else σ.get b := by
  simp only [Mem.get, Mem.push]
  by_cases h : b = σ.next
  · simp [h]
  · have : b < σ.next + 1 ↔ b < σ.next := by omega
    simp [h, this]
theorem Mem.put_get {σ : Mem} {b : Nat} (x : Blk2) (hb : b < σ.next) (c : Nat) : (σ.put b x).get c = if c = b then some x else σ.get c := by
  simp only [Mem.get, Mem.put]
  by_cases h : c = b
  · simp [h, hb]
  · simp [h]
theorem Mem.kill_get (σ : Mem) (b c : Nat) : (σ.kill b).get c = if c = b then none else σ.get c := by
  simp only [Mem.get, Mem.kill]
  by_cases h : c = b <;> simp [h]
def Mu.add (μ : Mu) (b : Nat) (bi : BI) : Mu := fun c => if c = b then some bi else μ c

/-- An object as it is made. -/
def ObjRel (μ : Mu) : Blk2 → Obj → Prop
  | .row r, o => ∃ cc : Array Value, o = .cells cc r.t ∧ cc.size = r.cs.length ∧ ∀ (i : Nat) v, r.cs[i]? = some v → ∃ v', cc[i]? = some v' ∧ VRel μ v v'
  | .iter s pos, o => o = .stringIter s pos
  | .ents es clock, o => ∃ cc, o = .map cc clock ∧ EntsIn μ es cc
  | .mit m since seen st, o => ∃ mbi : BI, μ m = some mbi ∧ o = .mapIter (some mbi.blk) since seen.toArray st
  | .defs isOpen, o => o = .deferred (if isOpen then some [] else none)
  | .loop st pe nt ta ps as bo df, o => ∃ fn tc di, o = .loop ⟨st, pe, fn, tc, ps, as, bo, di⟩ ∧ TRel μ nt ta tc ∧ ∃ dbi : BI, μ df = some dbi ∧ di = dbi.blk
def Blk2.len : Blk2 → Nat
  | .row r => r.cs.length
  | _ => 0
theorem BlkIn.of_made {w : World} {μ : Mu} {x : Blk2} {o : Obj} {B : Nat} (h : ObjRel μ x o) (hB : w.heap[B]? = some o) : BlkIn w μ ⟨B, 0, x.len, 0, 1⟩ x := by
  cases x with
  | row r =>
    obtain ⟨cc, rfl, hz, hv⟩ := h
    exact ⟨rfl, ⟨cc, (0, 0), r.t, hB, fun _ => ⟨rfl, .inl rfl, by simp [Blk2.len, hz], fun _ => ⟨rfl, rfl⟩⟩, by simpa using hv⟩⟩
  | iter s pos => subst h; exact ⟨hB, rfl⟩
  | ents es c => obtain ⟨cc, rfl, hc⟩ := h; exact ⟨cc, hB, hc⟩
  | mit m s l c => obtain ⟨mbi, h1, rfl⟩ := h; exact ⟨mbi, h1, hB, rfl⟩
  | defs o => subst h; exact hB
  | loop st pe nt ta ps as bo df => obtain ⟨fn, tc, di, rfl, h2⟩ := h; exact ⟨fn, tc, di, hB, h2⟩
theorem ObjRel.ext {μ μ' : Mu} (he : Ext μ μ') {x : Blk2} {o : Obj} (h : ObjRel μ x o) : ObjRel μ' x o := by
  cases x with
  | row r => obtain ⟨cc, h1, h2, h3⟩ := h; exact ⟨cc, h1, h2, fun i v e => let ⟨v', a, b⟩ := h3 i v e; ⟨v', a, b.ext he⟩⟩
  | iter s pos => exact h
  | ents es c => obtain ⟨cc, h1, hz, hv⟩ := h; exact ⟨cc, h1, hz, fun i k v e => let ⟨m, a, b, d, f⟩ := hv i k v e; ⟨m, a, b.ext he, d.ext he, f⟩⟩
  | mit m s l c => obtain ⟨mbi, h1, h2⟩ := h; exact ⟨mbi, he _ _ h1, h2⟩
  | defs o => exact h
  | loop st pe nt ta ps as bo df => obtain ⟨fn, tc, di, h1, h2, dbi, h3, h4⟩ := h; exact ⟨fn, tc, di, h1, h2.ext he, dbi, he _ _ h3, h4⟩
theorem Mu.add_ext {μ : Mu} {b : Nat} (bi : BI) (h : μ b = none) : Ext μ (μ.add b bi) := fun c x e => by
  unfold Mu.add
  split
  · rename_i hc; subst hc; rw [h] at e; cases e
  · exact e
theorem Mu.add_at (μ : Mu) (b : Nat) (bi : BI) : μ.add b bi b = some bi := by simp [Mu.add]

/-- A new block, under the number c. -/
theorem Stp.more {σ0 σ σ' : Mem} {μ0 μ : Mu} {w0 w : World} (h : Stp G σ0 μ0 w0 σ μ w) {c : Nat} (hc : σ0.next ≤ c) (hn : σ.get c = none) (hm : μ c = none) (hx : σ.next ≤ σ'.next) (hf : ∀ b, σ.next ≤ b → b < σ'.next → μ b = none) (hc' : c < σ'.next) {x : Blk2} {o : Obj} (ho : ObjRel μ x o) (hg : ∀ b, σ'.get b = if b = c then some x else σ.get b) :
    Stp G σ0 μ0 w0 σ' (μ.add c ⟨w.heap.size, 0, x.len, 0, 1⟩) (w.alloc o) := by
  have he := Mu.add_ext ⟨w.heap.size, 0, x.len, 0, 1⟩ hm
  have hat : (w.alloc o).heap[w.heap.size]? = some o := by show (w.heap.push o)[w.heap.size]? = _; simp
  have key : ∀ b, b ≠ c → (μ.add c ⟨w.heap.size, 0, x.len, 0, 1⟩) b = μ b := fun b hb => by simp [Mu.add, hb]
  have old : ∀ b y, σ'.get b = some y → b ≠ c → σ.get b = some y := fun b y hy hb => by rw [hg, if_neg hb] at hy; exact hy
  have at_c : ∀ b y bi, σ'.get b = some y → (μ.add c ⟨w.heap.size, 0, x.len, 0, 1⟩) b = some bi → b = c → y = x ∧ bi = ⟨w.heap.size, 0, x.len, 0, 1⟩ := fun b y bi hy hb e => by
    subst e
    rw [hg, if_pos rfl] at hy
    rw [Mu.add_at] at hb
    cases hy
    cases hb
    exact ⟨rfl, rfl⟩
  refine ⟨Nat.le_trans h.next hx, fun b h1 h2 => ?_, fun b hb => ?_, ⟨fun g hg => ?_, fun b y bi hy hb => ?_, fun b b' y y' bi bi' hy hy' hb hb' e => ?_, fun b y bi hGb hy hb => ?_⟩, Nat.le_trans h.size (by simp), h.os, h.tape, h.output, fun B hB hk => (RowKit.Below.heap_alloc _ _ _ (Nat.lt_of_lt_of_le hB h.size)).trans (h.keep B hB hk), fun b y bi hb hy hm' => ?_, fun b y hb hy => ?_, h.low⟩
  · rcases Nat.lt_or_ge b σ.next with h3 | h3
    · exact h.fresh b h1 h3
    · rw [← h.ext b (.inr h3)]; exact hf b h3 h2
  · have := h.next
    rw [key b (by omega), h.ext b (by omega)]
  · obtain ⟨bi, h1, h2⟩ := h.sim.glob g hg
    exact ⟨bi, he _ _ h1, h2⟩
  · by_cases e : b = c
    · obtain ⟨rfl, rfl⟩ := at_c b y bi hy hb e
      exact BlkIn.of_made (ho.ext he) hat
    · rw [key b e] at hb
      have k := h.sim.blk b y bi (old b y hy e) hb
      exact k.keep (RowKit.Below.heap_alloc _ _ _ k.lt) he
  · by_cases e1 : b = c <;> by_cases e2 : b' = c
    · exact fun _ => by rw [e1, e2]
    · obtain ⟨rfl, rfl⟩ := at_c b y bi hy hb e1
      rw [key b' e2] at hb'
      have := (h.sim.blk b' y' bi' (old b' y' hy' e2) hb').lt
      simp at e
      omega
    · obtain ⟨rfl, rfl⟩ := at_c b' y' bi' hy' hb' e2
      rw [key b e1] at hb
      have := (h.sim.blk b y bi (old b y hy e1) hb).lt
      simp at e
      omega
    · rw [key b e1] at hb
      rw [key b' e2] at hb'
      exact h.sim.inj b b' y y' bi bi' (old b y hy e1) (old b' y' hy' e2) hb hb' e
  · by_cases e : b = c
    · obtain ⟨rfl, rfl⟩ := at_c b y bi hy hb e
      exact Nat.one_pos
    · rw [key b e] at hb
      exact h.sim.rw_ b y bi hGb (old b y hy e) hb
  · by_cases e : b = c
    · obtain ⟨rfl, rfl⟩ := at_c b y bi hy hm' e
      exact .inl h.size
    · rw [key b e] at hm'
      exact h.new b y bi hb (old b y hy e) hm'
  · exact h.live b y hb (old b y hy (by omega))
theorem Stp.push {σ : Mem} {μ : Mu} {w : World} (hs : Sim G μ σ w) (hG : G ≤ σ.next) (hn : μ σ.next = none) {x : Blk2} {o : Obj} (h : ObjRel μ x o) :
    Stp G σ μ w (σ.push x) (μ.add σ.next ⟨w.heap.size, 0, x.len, 0, 1⟩) (w.alloc o) :=
  have hf : ∀ b, σ.next ≤ b → b < (σ.push x).next → μ b = none := fun b h1 h2 => by
    have e : b = σ.next := by simp [Mem.push] at h2; omega
    rw [e]; exact hn
  (Stp.refl hs hG).more (Nat.le_refl _) (by unfold Mem.get; simp) hn (by simp [Mem.push]) hf (by simp [Mem.push]) h (σ.push_get x)

theorem VRel.one {μ : Mu} {v v' : Value} (h : VRel μ v v') : v'.oneCell' = v.oneCell' := by cases h <;> rfl
/-- What a block that may turn holds is replaced. -/
theorem Stp.turn {σ : Mem} {μ : Mu} {w w' : World} (hs : Sim G μ σ w) (hG : G ≤ σ.next) {b : Nat} {x y : Blk2} {bi : BI} (hb : G ≤ b) (hx : σ.get b = some x) (hm : μ b = some bi)
    (hy : BlkIn w' μ bi y) (hsz : w'.heap.size = w.heap.size) (hos : w'.os = w.os) (ht : w'.tape = w.tape) (ho : w'.output = w.output) (hk : ∀ B, B ≠ bi.blk → w'.heap[B]? = w.heap[B]?) :
    Stp G σ μ w (σ.put b y) μ w' := by
  have hg := Mem.put_get (σ := σ) (b := b) y (Mem.lt hx)
  have key : ∀ c z, (σ.put b y).get c = some z → ∃ z', σ.get c = some z' := fun c z hz => by
    rw [hg] at hz
    split at hz
    · rename_i hcb; exact ⟨x, hcb ▸ hx⟩
    · exact ⟨z, hz⟩
  refine ⟨Nat.le_refl _, fun c h1 h2 => absurd h1 (by have : c < σ.next := h2; omega), fun _ _ => rfl, ⟨hs.glob, fun c z ci hz hc => ?_, fun c c' z z' ci ci' hz hz' hc hc' e => ?_, fun c z ci hGc hz hc => ?_⟩, by omega, hos, ht, ho, fun B hB h => hk B (Ne.symm (h b x bi hb hx hm)), fun c z ci hc hz _ => ?_, fun c z hc hz => key c z hz, hG⟩
  · rw [hg] at hz
    split at hz
    · rename_i hcb
      subst hcb
      rw [hm] at hc
      cases hc
      cases hz
      exact hy
    · rename_i hcb
      refine (hs.blk c z ci hz hc).keep (hk _ fun e => hcb (hs.inj c b z x ci bi hz hx hc hm e (.inr hb))) (Ext.refl _)
  · obtain ⟨u, hu⟩ := key c z hz
    obtain ⟨u', hu'⟩ := key c' z' hz'
    exact hs.inj c c' u u' ci ci' hu hu' hc hc' e
  · obtain ⟨u, hu⟩ := key c z hz
    exact hs.rw_ c u ci hGc hu hc
  · obtain ⟨u, hu⟩ := key c z hz
    have := Mem.lt hu
    omega
/-- A block is given up. -/
theorem Stp.kill {σ : Mem} {μ : Mu} {w : World} (hs : Sim G μ σ w) (hG : G ≤ σ.next) (b : Nat) : Stp G σ μ w (σ.kill b) μ w := by
  have key : ∀ c z, (σ.kill b).get c = some z → σ.get c = some z := fun c z hz => by
    rw [Mem.kill_get] at hz
    split at hz
    · cases hz
    · exact hz
  exact ⟨Nat.le_refl _, fun c h1 h2 => absurd h1 (by have : c < σ.next := h2; omega), fun _ _ => rfl, ⟨hs.glob, fun c z ci hz hc => hs.blk c z ci (key c z hz) hc, fun c c' z z' ci ci' hz hz' hc hc' e => hs.inj c c' z z' ci ci' (key _ _ hz) (key _ _ hz') hc hc' e, fun c z ci hGc hz hc => hs.rw_ c z ci hGc (key _ _ hz) hc⟩, Nat.le_refl _, rfl, rfl, rfl, fun _ _ _ => rfl,
    fun c z ci hc hz _ => absurd (Mem.lt (key c z hz)) (by omega), fun c z _ hz => ⟨z, key c z hz⟩, hG⟩

/-- Operands that are related. -/
def ORel (μ : Mu) (ρ ρc : Operand → Value) (xs : Array Operand) : Prop := ∀ x ∈ xs, VRel μ (ρ x) (ρc x)
theorem ORel.ext {μ μ' : Mu} {ρ ρc : Operand → Value} {xs : Array Operand} (h : ORel μ ρ ρc xs) (he : Ext μ μ') : ORel μ' ρ ρc xs := fun x hx => (h x hx).ext he

/-- An operation that computes alone. -/
def VOp (P : Program) (o : Oper) (ρ : Operand → Value) (v : Value) : Prop :=
  ∀ μ ρc, ORel μ ρ ρc o.op.operands → ∃ vc, VRel μ v vc ∧ ∀ w, (execOp ρc o).run P w = .ok (.value vc) w
/-- These cells lie there. -/
def CellsIn (w : World) (μ : Mu) (b off : Nat) (cs : List Value) : Prop :=
  ∃ bi, μ b = some bi ∧ ∀ (i : Nat) v, cs[i]? = some v → ∃ v', w.cell? ⟨bi.blk, bi.sh + off + i, none⟩ = some v' ∧ VRel μ v v'
/-- An operation that reads cells. -/
def LOp (P : Program) (o : Oper) (ρ : Operand → Value) (b off : Nat) (cs : List Value) (v : Value) : Prop :=
  ∀ μ ρc w, ORel μ ρ ρc o.op.operands → CellsIn w μ b off cs → ∃ vc, VRel μ v vc ∧ (execOp ρc o).run P w = .ok (.value vc) w
/-- An operation that makes a block. -/
def AOp (P : Program) (o : Oper) (ρ : Operand → Value) (x : Blk2) (mk : Nat → Value) : Prop :=
  (∀ μ b bi, μ b = some bi → bi.sh = 0 → VRel μ (mk b) (mk bi.blk)) ∧
  ∀ μ ρc w, ORel μ ρ ρc o.op.operands → ∃ ob, ObjRel μ x ob ∧ (execOp ρc o).run P w = .ok (.value (mk w.heap.size)) (w.alloc ob)
/-- An operation of whatever kind, from a second memory to another. -/
def EOp (G : Nat) (P : Program) (o : Oper) (ρ : Operand → Value) (σ : Mem) (v : Value) (σ' : Mem) : Prop :=
  σ.next ≤ σ'.next ∧ ∀ μ w (a : Act), Sim G μ σ w → G ≤ σ.next → (∀ b, σ.next ≤ b → b < σ'.next → μ b = none) → ORel μ ρ a.eval o.op.operands → ∀ (K : Act → World → Prop) (Q : Exit → Act → World → Prop),
    (∀ vc w' μ', Stp G σ μ w σ' μ' w' → VRel μ' v vc → K (a.put o.dst vc) w') → ∀ rd, o.wpIn (FW rd) 0 P a w K Q

theorem not_defer {o : Oper} {ρ : Operand → Value} {w w' : World} {x : Next} (h : (execOp ρ o).run P w = .ok x w') (hx : ∀ d, x ≠ .defer d) : ∀ c, o.op ≠ .defer c := fun c hc => by
  unfold execOp at h
  rw [hc] at h
  simp only [Sem.run_bind] at h
  cases hr : (resolve ρ c o.type).run P w with
  | ok d w1 =>
    rw [hr] at h
    simp at h
    exact hx d h.1.symm
  | halt x w1 => rw [hr] at h; simp at h
section
variable {o : Oper} {a : Act} {w w' : World} {v : Value} {K : Act → World → Prop} {Q : Exit → Act → World → Prop} {rd : Option Nat}
theorem wp_of_value (h : (execOp a.eval o).run P w = .ok (.value v) w') (k : K (a.put o.dst v) w') : o.wpIn (FW rd) 0 P a w K Q := by
  refine ⟨fun _ _ => trivial, ?_⟩
  rw [Oper.semAt_eq _ _ _ (not_defer h (by simp)), h]
  exact k
theorem wp_of_skip (h : (execOp a.eval o).run P w = .ok .skip w') (k : K (a.put o.dst undef) w') : o.wpIn (FW rd) 0 P a w K Q := by
  refine ⟨fun _ _ => trivial, ?_⟩
  rw [Oper.semAt_eq _ _ _ (not_defer h (by simp)), h]
  exact k
theorem wp_of_enter {f : FuncId} {args : Array Value} (h : (execOp a.eval o).run P w = .ok (.enter f args) w')
    (k : Calls P f args w' fun e w'' => ∃ v, e = .returned v ∧ K (a.put o.dst v) w'') : o.wpIn (FW rd) 0 P a w K Q := by
  refine ⟨fun _ _ => trivial, ?_⟩
  rw [Oper.semAt_eq _ _ _ (not_defer h (by simp)), h]
  refine ⟨fun h => (by simp [Fence.wide] at h), ?_⟩
  refine (callsIn_wide.2 (k.mono ?_) : CallsIn Fence.wide 0 P f args w' _)
  rintro e w'' ⟨v, rfl, hk⟩
  exact hk
theorem wp_of_round {l : Nat} {f : FuncId} {tmps : Array Value} {assign body : Code} (h : (execOp a.eval o).run P w = .ok (.round l f tmps assign body) w')
    (k : RoundIn Fence.wide 0 P l f tmps assign body w' fun e w'' => ∃ v, e = .returned v ∧ K (a.put o.dst v) w'') : o.wpIn (FW rd) 0 P a w K Q := by
  refine ⟨fun _ _ => trivial, ?_⟩
  rw [Oper.semAt_eq _ _ _ (not_defer h (by simp)), h]
  refine ⟨fun h => (by simp [Fence.wide] at h), ?_⟩
  refine (RoundIn.mono k ?_ : RoundIn Fence.wide 0 P l f tmps assign body w' _)
  rintro e w'' ⟨v, rfl, hk⟩
  exact hk
end
theorem VOp.eop {o : Oper} {ρ : Operand → Value} {v : Value} (h : VOp P o ρ v) (σ : Mem) : EOp G P o ρ σ v σ := ⟨Nat.le_refl _, fun μ w a hs hG _ ho K Q k rd => by
  obtain ⟨vc, hv, hr⟩ := h μ a.eval ho
  exact wp_of_value (hr w) (k vc w μ (Stp.refl hs hG) hv)⟩
theorem CellsIn.of_row {σ : Mem} {μ : Mu} {w : World} (hs : Sim G μ σ w) {b off : Nat} {bi : BI} (hm : μ b = some bi) {r : Row} (hr : σ.get b = some (.row r)) {cs : List Value} (hc : ∀ (i : Nat) v, cs[i]? = some v → r.cs[off + i]? = some v) : CellsIn w μ b off cs := by
  have k := hs.blk b _ bi hr hm
  obtain ⟨cc, fz, t', hh, _, hv⟩ := k.lie
  refine ⟨bi, hm, fun i v e => ?_⟩
  obtain ⟨v', h1, h2⟩ := hv _ _ (hc i v e)
  exact ⟨v', by simp only [World.cell?, hh]; simpa [Nat.add_assoc] using h1, h2⟩
theorem LOp.eop {o : Oper} {ρ : Operand → Value} {b off : Nat} {cs : List Value} {v : Value} (h : LOp P o ρ b off cs v) {σ : Mem} {r : Row} (hr : σ.get b = some (.row r)) (hc : ∀ (i : Nat) v, cs[i]? = some v → r.cs[off + i]? = some v)
    (hm : ∀ μ ρc, ORel μ ρ ρc o.op.operands → ∃ bi, μ b = some bi) : EOp G P o ρ σ v σ := ⟨Nat.le_refl _, fun μ w a hs hG _ ho K Q k rd => by
  obtain ⟨bi, hb⟩ := hm μ a.eval ho
  obtain ⟨vc, hv, hrun⟩ := h μ a.eval w ho (CellsIn.of_row hs hb hr hc)
  exact wp_of_value hrun (k vc w μ (Stp.refl hs hG) hv)⟩
theorem AOp.eop {o : Oper} {ρ : Operand → Value} {x : Blk2} {mk : Nat → Value} (h : AOp P o ρ x mk) (σ : Mem) : EOp G P o ρ σ (mk σ.next) (σ.push x) := ⟨by simp [Mem.push], fun μ w a hs hG hf ho K Q k rd => by
  obtain ⟨ob, hob, hr⟩ := h.2 μ a.eval w ho
  exact wp_of_value hr (k _ _ _ (Stp.push hs hG (hf _ (Nat.le_refl _) (by simp [Mem.push])) hob) (h.1 _ _ _ (Mu.add_at _ _ _) rfl))⟩
end Go.Proofs.YthemeeiedlbhkaaGreatDoor
