/-
  A second memory beside the model's: rows under numbers of their own, and what it means that a world holds them. No program in this text. Conditions: none.
-/
import Derived.Orders
import Derived.Below
import Derived.Laws.CopyRow
namespace Go.Proofs.YthemeeiedlbhkaaGreatDoor

/-- Where a row of the second memory lies: block, how far in, how long, how many elements of what size there is room for behind it. -/
structure BI where
  blk : Nat
  sh : Nat
  len : Nat
  r : Nat
  sz : Nat
abbrev Mu := Nat → Option BI

/-- Values without an address. -/
def flatV : Value → Bool
  | .bool _ | .int _ _ | .float _ _ | .complex _ _ _ | .string _ | .pointer none | .slice none _ _ | .map none | .chan none | .nilFunc | .nilIface => true
  | _ => false

def isYield : Fn → Bool | .yield _ => true | _ => false
inductive VRel (μ : Mu) : Value → Value → Prop
  | flat (v : Value) (h : flatV v = true) : VRel μ v v
  | ptr (b o : Nat) (bi : BI) (h : μ b = some bi) : VRel μ (.pointer (some ⟨b, o, none⟩)) (.pointer (some ⟨bi.blk, bi.sh + o, none⟩))
  | sliceE (b o n c : Nat) (bi : BI) (h : μ b = some bi) : VRel μ (.slice (some ⟨b, o, none⟩) n c) (.slice (some ⟨bi.blk, bi.sh + o, none⟩) n c)
  | sliceR (b o n c sz : Nat) (bi : BI) (h : μ b = some bi) (hz : 0 < sz) (hs : bi.sz = sz) (he : o + c * sz = bi.len) : VRel μ (.slice (some ⟨b, o, some sz⟩) n c) (.slice (some ⟨bi.blk, bi.sh + o, none⟩) n (c + bi.r))
  | sliceN (b o sz : Nat) (bi : BI) (h : μ b = some bi) (hz : 0 < sz) (hs : bi.sz = sz) : VRel μ (.slice (some ⟨b, o, some sz⟩) 0 0) (.slice (some ⟨bi.blk, bi.sh + bi.len, none⟩) 0 bi.r)
  | sliceZ (b o sz q : Nat) (bi : BI) (h : μ b = some bi) (hz : 0 < sz) (hs : bi.sz = sz) : VRel μ (.slice (some ⟨b, o, some sz⟩) 0 0) (.slice (some ⟨bi.blk, q, none⟩) 0 0)
  | map (b : Nat) (bi : BI) (h : μ b = some bi) : VRel μ (.map (some b)) (.map (some bi.blk))
  | iface (t : TypeId) (v v' : Value) (h : VRel μ v v') : VRel μ (.iface t v) (.iface t v')
  | agg (cs cs' : Array Value) (hs : cs.size = cs'.size) (h : ∀ (i : Nat) v v', cs[i]? = some v → cs'[i]? = some v' → VRel μ v v') : VRel μ (.agg cs) (.agg cs')
  | tuple (cs cs' : Array Value) (hs : cs.size = cs'.size) (h : ∀ (i : Nat) v v', cs[i]? = some v → cs'[i]? = some v' → VRel μ v v') : VRel μ (.tuple cs) (.tuple cs')
  | yld (b : Nat) (bi : BI) (h : μ b = some bi) : VRel μ (.func (.yield b) #[] #[]) (.func (.yield bi.blk) #[] #[])
  | func (fn : Fn) (a a' c c' : Array Value) (hf : isYield fn = false) (hs : a.size = a'.size) (h : ∀ (i : Nat) v v', a[i]? = some v → a'[i]? = some v' → VRel μ v v') (ks : c.size = c'.size) (k : ∀ (i : Nat) v v', c[i]? = some v → c'[i]? = some v' → VRel μ v v') : VRel μ (.func fn a c) (.func fn a' c')

def ARel (μ : Mu) (cs cs' : Array Value) : Prop := cs.size = cs'.size ∧ ∀ (i : Nat) v v', cs[i]? = some v → cs'[i]? = some v' → VRel μ v v'

def Ext (μ μ' : Mu) : Prop := ∀ b bi, μ b = some bi → μ' b = some bi
theorem Ext.refl (μ : Mu) : Ext μ μ := fun _ _ h => h
theorem Ext.trans {a b c : Mu} (h : Ext a b) (k : Ext b c) : Ext a c := fun x y e => k x y (h x y e)

theorem VRel.ext {μ μ' : Mu} (he : Ext μ μ') {v v' : Value} (h : VRel μ v v') : VRel μ' v v' := by
  induction h with
  | flat v h => exact .flat v h
  | ptr b o bi h => exact .ptr b o bi (he _ _ h)
  | sliceE b o n c bi h => exact .sliceE b o n c bi (he _ _ h)
  | sliceR b o n c sz bi h hz hs e => exact .sliceR b o n c sz bi (he _ _ h) hz hs e
  | sliceN b o sz bi h hz hs => exact .sliceN b o sz bi (he _ _ h) hz hs
  | sliceZ b o sz q bi h hz hs => exact .sliceZ b o sz q bi (he _ _ h) hz hs
  | map b bi h => exact .map b bi (he _ _ h)
  | iface t v v' _ ih => exact .iface t v v' ih
  | agg cs cs' hs _ ih => exact .agg cs cs' hs ih
  | tuple cs cs' hs _ ih => exact .tuple cs cs' hs ih
  | yld b bi h => exact .yld b bi (he _ _ h)
  | func fn a a' c c' hf hs _ ks _ ih ik => exact .func fn a a' c c' hf hs ih ks ik
theorem ARel.ext {μ μ' : Mu} (he : Ext μ μ') {v v' : Array Value} (h : ARel μ v v') : ARel μ' v v' :=
  ⟨h.1, fun i x x' e e' => (h.2 i x x' e e').ext he⟩
/-- Two values that are related only under a smaller map are related under it, if their addresses are there. -/
theorem VRel.undef (μ : Mu) : VRel μ undef undef := .tuple #[] #[] rfl (by simp)

/-- The temporaries. -/
def TRel (μ : Mu) (nt : Nat) (ta : Nat → Value) (tc : Array Value) : Prop := tc.size = nt ∧ ∀ t, VRel μ (ta t) (tc.getD t undef)
theorem TRel.ext {μ μ' : Mu} {nt : Nat} {ta : Nat → Value} {tc : Array Value} (h : TRel μ nt ta tc) (he : Ext μ μ') : TRel μ' nt ta tc := ⟨h.1, fun t => (h.2 t).ext he⟩
/-- A row of the second memory. -/
structure Row where
  cs : List Value
  t : TypeId
  /-- Has append made it? -/
  g : Bool
/-- What lies under a number: a row, or the text that an iteration goes through, and how far it has come. -/
inductive Blk2 where
  | row (r : Row)
  | iter (s : ByteArray) (pos : Nat)
  | ents (es : List (Value × Value)) (clock : Nat)
  | mit (m since : Nat) (seen : List Nat) (st : Nat)
  | defs (isOpen : Bool)
  | loop (state : LoopState) (pending : Option Code) (nt : Nat) (ta : Nat → Value) (params : Array Tmp) (assign body : Code) (defers : Nat)
structure Mem where
  raw : Nat → Option Blk2
  next : Nat
def Mem.get (σ : Mem) (b : Nat) : Option Blk2 := if b < σ.next then σ.raw b else none
theorem Mem.lt {σ : Mem} {b : Nat} {x : Blk2} (h : σ.get b = some x) : b < σ.next := by
  unfold Mem.get at h
  split at h
  · assumption
  · cases h

/-- How a row lies in a world. -/
structure RowIn (w : World) (μ : Mu) (r : Row) (bi : BI) : Prop where
  len : r.cs.length = bi.len
  lie : ∃ (cc : Array Value) (fz : Nat × Nat) (t' : TypeId), w.heap[bi.blk]? = some (.cells cc t' fz) ∧ (0 < bi.sz → t' = r.t ∧ (fz = (0, 0) ∨ cc.size ≤ fz.1) ∧ cc.size = bi.sh + bi.len + bi.r * bi.sz ∧ (r.g = false → bi.sh = 0 ∧ bi.r = 0)) ∧ ∀ (i : Nat) v, r.cs[i]? = some v → ∃ v', cc[bi.sh + i]? = some v' ∧ VRel μ v v'
def EntsIn (μ : Mu) (es : List (Value × Value)) (cc : Array MapEntry) : Prop :=
  cc.size = es.length ∧ ∀ (i : Nat) k v, es[i]? = some (k, v) → ∃ e : MapEntry, cc[i]? = some e ∧ VRel μ k e.key ∧ VRel μ v e.val ∧ e.born = i
def BlkIn (w : World) (μ : Mu) (bi : BI) : Blk2 → Prop
  | .row r => RowIn w μ r bi
  | .iter s pos => w.heap[bi.blk]? = some (.stringIter s pos) ∧ bi.sh = 0
  | .ents es clock => ∃ cc, w.heap[bi.blk]? = some (.map cc clock) ∧ EntsIn μ es cc
  | .mit m since seen st => ∃ mbi : BI, μ m = some mbi ∧ w.heap[bi.blk]? = some (.mapIter (some mbi.blk) since seen.toArray st) ∧ bi.sh = 0
  | .defs isOpen => w.heap[bi.blk]? = some (.deferred (if isOpen then some [] else none))
  | .loop st pe nt ta ps as bo df => ∃ fn tc di, w.heap[bi.blk]? = some (.loop ⟨st, pe, fn, tc, ps, as, bo, di⟩) ∧ TRel μ nt ta tc ∧ ∃ dbi : BI, μ df = some dbi ∧ di = dbi.blk
theorem BlkIn.lt {w : World} {μ : Mu} {bi : BI} {x : Blk2} (h : BlkIn w μ bi x) : bi.blk < w.heap.size := by
  have key : ∀ o, w.heap[bi.blk]? = some o → bi.blk < w.heap.size := fun o ho => (Array.getElem?_eq_some_iff.1 ho).1
  cases x with
  | row r => obtain ⟨cc, fz, t', hc, _⟩ := h.lie; exact key _ hc
  | iter s pos => exact key _ h.1
  | ents es c => obtain ⟨cc, hc, _⟩ := h; exact key _ hc
  | mit m s l c => obtain ⟨_, _, hc, _⟩ := h; exact key _ hc
  | defs o => exact key _ h
  | loop st pe nt ta ps as bo df => obtain ⟨fn, tc, di, hc, _⟩ := h; exact key _ hc
theorem BlkIn.keep {w w' : World} {μ μ' : Mu} {bi : BI} {x : Blk2} (h : BlkIn w μ bi x) (hk : w'.heap[bi.blk]? = w.heap[bi.blk]?) (he : Ext μ μ') : BlkIn w' μ' bi x := by
  cases x with
  | row r =>
    obtain ⟨cc, fz, t', hc, hf, hv⟩ := h.lie
    exact ⟨h.len, ⟨cc, fz, t', hk.trans hc, hf, fun i v e => let ⟨v', a, b⟩ := hv i v e; ⟨v', a, b.ext he⟩⟩⟩
  | iter s pos => exact ⟨hk.trans h.1, h.2⟩
  | ents es c =>
    obtain ⟨cc, hc, hz, hv⟩ := h
    exact ⟨cc, hk.trans hc, hz, fun i k v e => let ⟨m, a, b, d, f⟩ := hv i k v e; ⟨m, a, b.ext he, d.ext he, f⟩⟩
  | mit m s l c =>
    obtain ⟨mbi, h1, h2, h3⟩ := h
    exact ⟨mbi, he _ _ h1, hk.trans h2, h3⟩
  | defs o => exact hk.trans h
  | loop st pe nt ta ps as bo df =>
    obtain ⟨fn, tc, di, hc, ht, dbi, h1, h2⟩ := h
    exact ⟨fn, tc, di, hk.trans hc, ht.ext he, dbi, he _ _ h1, h2⟩

/-- A world holds what the second memory says of the numbers that the map names. -/
structure Sim (G : Nat) (μ : Mu) (σ : Mem) (w : World) : Prop where
  glob : ∀ g, g < G → ∃ bi, μ g = some bi ∧ (g < 64 → bi.blk = g ∧ bi.sh = 0)
  blk : ∀ b x bi, σ.get b = some x → μ b = some bi → BlkIn w μ bi x
  inj : ∀ b b' x x' bi bi', σ.get b = some x → σ.get b' = some x' → μ b = some bi → μ b' = some bi' → bi.blk = bi'.blk → (G ≤ b ∨ G ≤ b') → b = b'
  rw_ : ∀ b x bi, G ≤ b → σ.get b = some x → μ b = some bi → 0 < bi.sz

/-- What a step may do: rows from G on may turn, those below G and all else stay. -/
structure Stp (G : Nat) (σ : Mem) (μ : Mu) (w : World) (σ' : Mem) (μ' : Mu) (w' : World) : Prop where
  next : σ.next ≤ σ'.next
  fresh : ∀ b, σ.next ≤ b → b < σ'.next → μ b = none
  ext : ∀ b, b < σ.next ∨ σ'.next ≤ b → μ' b = μ b
  sim : Sim G μ' σ' w'
  size : w.heap.size ≤ w'.heap.size
  os : w'.os = w.os
  tape : w'.tape = w.tape
  output : w'.output = w.output
  keep : ∀ B, B < w.heap.size → (∀ b x bi, G ≤ b → σ.get b = some x → μ b = some bi → bi.blk ≠ B) → w'.heap[B]? = w.heap[B]?
  new : ∀ b x bi, σ.next ≤ b → σ'.get b = some x → μ' b = some bi → w.heap.size ≤ bi.blk ∨ ∃ b0 x0 bi0, G ≤ b0 ∧ σ.get b0 = some x0 ∧ μ b0 = some bi0 ∧ bi0.blk = bi.blk
  live : ∀ b x, b < σ.next → σ'.get b = some x → ∃ x0, σ.get b = some x0
  low : G ≤ σ.next

theorem Stp.extE {G : Nat} {σ σ' : Mem} {μ μ' : Mu} {w w' : World} (h : Stp G σ μ w σ' μ' w') : Ext μ μ' := fun b bi e => by
  rcases Nat.lt_or_ge b σ.next with h1 | h1
  · rw [h.ext b (.inl h1)]; exact e
  · rcases Nat.lt_or_ge b σ'.next with h2 | h2
    · rw [h.fresh b h1 h2] at e; cases e
    · rw [h.ext b (.inr h2)]; exact e
theorem Stp.refl {G : Nat} {σ : Mem} {μ : Mu} {w : World} (hs : Sim G μ σ w) (hG : G ≤ σ.next) : Stp G σ μ w σ μ w :=
  ⟨Nat.le_refl _, fun b h1 h2 => absurd h1 (by omega), fun _ _ => rfl, hs, Nat.le_refl _, rfl, rfl, rfl, fun _ _ _ => rfl, fun b x bi hb hx _ => absurd (Mem.lt hx) (by omega), fun _ x _ h => ⟨x, h⟩, hG⟩
theorem Stp.trans {G : Nat} {σ σ1 σ2 : Mem} {μ μ1 μ2 : Mu} {w w1 w2 : World} (h : Stp G σ μ w σ1 μ1 w1) (k : Stp G σ1 μ1 w1 σ2 μ2 w2) : Stp G σ μ w σ2 μ2 w2 where
  next := Nat.le_trans h.next k.next
  fresh := fun b h1 h2 => by
    rcases Nat.lt_or_ge b σ1.next with h3 | h3
    · exact h.fresh b h1 h3
    · rw [← h.ext b (.inr h3)]; exact k.fresh b h3 h2
  ext := fun b hb => by
    have := h.next
    have := k.next
    rw [k.ext b (by omega), h.ext b (by omega)]
  sim := k.sim
  size := Nat.le_trans h.size k.size
  os := k.os.trans h.os
  tape := k.tape.trans h.tape
  output := k.output.trans h.output
  keep := fun B hB hk => by
    refine (k.keep B (Nat.lt_of_lt_of_le hB h.size) fun b x bi hG hx hm => ?_).trans (h.keep B hB hk)
    rcases Nat.lt_or_ge b σ.next with hb | hb
    · obtain ⟨x0, hx0⟩ := h.live b x hb hx
      exact hk b x0 bi hG hx0 (by rw [← h.ext b (.inl hb)]; exact hm)
    · rcases h.new b x bi hb hx hm with h1 | ⟨b0, x0, bi0, g0, hx0, hm0, he⟩
      · omega
      · rw [← he]; exact hk b0 x0 bi0 g0 hx0 hm0
  new := fun b x bi hb hx hm => by
    rcases Nat.lt_or_ge b σ1.next with hb1 | hb1
    · obtain ⟨x1, hx1⟩ := k.live b x hb1 hx
      exact h.new b x1 bi hb hx1 (by rw [← k.ext b (.inl hb1)]; exact hm)
    · rcases k.new b x bi hb1 hx hm with h1 | ⟨b0, x0, bi0, g0, hx0, hm0, he⟩
      · exact .inl (Nat.le_trans h.size h1)
      · rcases Nat.lt_or_ge b0 σ.next with hb0 | hb0
        · obtain ⟨y, hy⟩ := h.live b0 x0 hb0 hx0
          exact .inr ⟨b0, y, bi0, g0, hy, by rw [← h.ext b0 (.inl hb0)]; exact hm0, he⟩
        · rcases h.new b0 x0 bi0 hb0 hx0 hm0 with h2 | ⟨b1, x1, bi1, g1, hx1, hm1, he1⟩
          · exact .inl (by omega)
          · exact .inr ⟨b1, x1, bi1, g1, hx1, hm1, he1.trans he⟩
  live := fun b x hb hx => by
    obtain ⟨x1, hx1⟩ := k.live b x (Nat.lt_of_lt_of_le hb h.next) hx
    exact h.live b x1 hb hx1
  low := h.low
theorem Sim.drawn {G : Nat} {μ : Mu} {σ : Mem} {w w' : World} (h : Sim G μ σ w) (e : w'.heap = w.heap) : Sim G μ σ w' :=
  ⟨h.glob, fun b x bi hx hm => (h.blk b x bi hx hm).keep (by rw [e]) (Ext.refl _), h.inj, h.rw_⟩

def upd (ta : Nat → Value) (d : Nat) (v : Value) : Nat → Value := fun t => if t = d then v else ta t
theorem TRel.put {μ : Mu} {nt : Nat} {ta : Nat → Value} {tc : Array Value} (h : TRel μ nt ta tc) {d : Nat} (hd : d < nt) {v vc : Value} (hv : VRel μ v vc) : TRel μ nt (upd ta d v) (tc.setIfInBounds d vc) := by
  refine ⟨by simp [h.1], fun t => ?_⟩
  unfold upd
  by_cases ht : t = d
  · subst ht
    have : t < tc.size := by rw [h.1]; exact hd
    simp [this, hv]
  · have := h.2 t
    simp [ht, Array.getElem?_setIfInBounds_ne (Ne.symm ht)]
    simpa using this
/-- What an operand is. -/
def oper2 (ta : Nat → Value) : Operand → Value
  | .tmp t => ta t
  | .const v => v
  | .global g => .pointer (some ⟨g, 0, none⟩)
  | .func f => .func (.func f) #[] #[]
end Go.Proofs.YthemeeiedlbhkaaGreatDoor
