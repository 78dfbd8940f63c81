/-
  append, copy and the conversions between strings and slices, in the second memory. Over any program. Conditions: none.
-/
import Derived.Test.YtmlmnbcnfalaaaaDoorSj
import Derived.Laws.Append
namespace Go.Proofs.YtmlmnbcnfalaaaaDoor
variable {P : Program} {G : Nat} {nt : Nat} {o : Oper} {ρ : Operand → Value} {v : Value}

/-- Like 'Stp.more', wherever and however the new block lies. -/
theorem Stp.grow {σ : Mem} {μ : Mu} {w w' : World} (hs : Sim G μ σ w) (hG : G ≤ σ.next) (hn : μ σ.next = none) {x : Blk2} {bi : BI} (hb : bi.blk = w.heap.size) (hz : 0 < bi.sz) (hw : w'.heap.size = w.heap.size + 1) (hos : w'.os = w.os) (ht : w'.tape = w.tape) (ho : w'.output = w.output) (hk : ∀ B, B < w.heap.size → w'.heap[B]? = w.heap[B]?)
    (hx : ∀ μ', Ext μ μ' → BlkIn w' μ' bi x) : Stp G σ μ w (σ.push x) (μ.add σ.next bi) w' := by
  have he := Mu.add_ext bi hn
  have key : ∀ b, b ≠ σ.next → (μ.add σ.next bi) b = μ b := fun b hb => by simp [Mu.add, hb]
  have old : ∀ b y, (σ.push x).get b = some y → b ≠ σ.next → σ.get b = some y := fun b y hy hb => by rw [σ.push_get, if_neg hb] at hy; exact hy
  have at_c : ∀ b y ci, (σ.push x).get b = some y → (μ.add σ.next bi) b = some ci → b = σ.next → y = x ∧ ci = bi := fun b y ci hy hb e => by
    subst e
    rw [σ.push_get, if_pos rfl] at hy
    rw [Mu.add_at] at hb
    cases hy
    cases hb
    exact ⟨rfl, rfl⟩
  refine ⟨by simp [Mem.push], fun b h1 h2 => ?_, fun b hb => ?_, ⟨fun g hg => ?_, fun b y ci hy hb' => ?_, fun b b' y y' ci ci' hy hy' hc hc' e => ?_, fun b y ci hGb hy hc => ?_⟩, by omega, hos, ht, ho, fun B hB _ => hk B hB, fun b y ci hb' hy hm => ?_, fun b y hb' hy => ⟨y, old b y hy (by omega)⟩, hG⟩
  · obtain rfl : b = σ.next := by simp [Mem.push] at h2; omega
    exact hn
  · refine key b ?_
    simp [Mem.push] at hb
    omega
  · obtain ⟨ci, h1, h2⟩ := hs.glob g hg
    exact ⟨ci, he _ _ h1, h2⟩
  · by_cases e : b = σ.next
    · obtain ⟨rfl, rfl⟩ := at_c b y ci hy hb' e
      exact hx _ he
    · rw [key b e] at hb'
      have k := hs.blk b y ci (old b y hy e) hb'
      exact k.keep (hk _ k.lt) he
  · by_cases e1 : b = σ.next <;> by_cases e2 : b' = σ.next
    · rw [e1, e2]
    · obtain ⟨rfl, rfl⟩ := at_c b y ci hy hc e1
      rw [key b' e2] at hc'
      have := (hs.blk b' y' ci' (old b' y' hy' e2) hc').lt
      omega
    · obtain ⟨rfl, rfl⟩ := at_c b' y' ci' hy' hc' e2
      rw [key b e1] at hc
      have := (hs.blk b y ci (old b y hy e1) hc).lt
      omega
    · rw [key b e1] at hc
      rw [key b' e2] at hc'
      exact hs.inj b b' y y' ci ci' (old b y hy e1) (old b' y' hy' e2) hc hc' e
  · by_cases e : b = σ.next
    · obtain ⟨rfl, rfl⟩ := at_c b y ci hy hc e
      exact hz
    · rw [key b e] at hc
      exact hs.rw_ b y ci hGb (old b y hy e) hc
  · by_cases e : b = σ.next
    · obtain ⟨rfl, rfl⟩ := at_c b y ci hy hm e
      exact .inl (by omega)
    · have := Mem.lt (old b y hy e)
      omega
/-- A row goes on in its own block, under a new number; the old one is given up. -/
theorem Stp.regrow {σ : Mem} {μ : Mu} {w w' : World} (hs : Sim G μ σ w) (hG : G ≤ σ.next) (hn : μ σ.next = none) {b : Nat} {y x : Blk2} {bi ci : BI} (hb : G ≤ b) (hy : σ.get b = some y) (hm : μ b = some bi) (hc : ci.blk = bi.blk) (hsz0 : 0 < ci.sz) (hw : w'.heap.size = w.heap.size) (hos : w'.os = w.os) (ht : w'.tape = w.tape) (ho : w'.output = w.output)
    (hk : ∀ B, B ≠ bi.blk → w'.heap[B]? = w.heap[B]?) (hx : ∀ μ', Ext μ μ' → BlkIn w' μ' ci x) : Stp G σ μ w ((σ.kill b).push x) (μ.add σ.next ci) w' := by
  have he := Mu.add_ext ci hn
  have hlt := Mem.lt hy
  have hg : ∀ c, ((σ.kill b).push x).get c = if c = σ.next then some x else if c = b then none else σ.get c := fun c => by rw [Mem.push_get, Mem.kill_get]; rfl
  have key : ∀ c, c ≠ σ.next → (μ.add σ.next ci) c = μ c := fun c hb => by simp [Mu.add, hb]
  have old : ∀ c z, ((σ.kill b).push x).get c = some z → c ≠ σ.next → σ.get c = some z ∧ c ≠ b := fun c z hz hb => by
    rw [hg, if_neg hb] at hz
    split at hz
    · cases hz
    · exact ⟨hz, by assumption⟩
  have at_c : ∀ c z di, ((σ.kill b).push x).get c = some z → (μ.add σ.next ci) c = some di → c = σ.next → z = x ∧ di = ci := fun c z di hz hb e => by
    subst e
    rw [hg, if_pos rfl] at hz
    rw [Mu.add_at] at hb
    cases hz
    cases hb
    exact ⟨rfl, rfl⟩
  refine ⟨by simp [Mem.push, Mem.kill], fun c h1 h2 => ?_, fun c hc' => ?_, ⟨fun g hg' => ?_, fun c z di hz hd => ?_, fun c c' z z' di di' hz hz' hd hd' e => ?_, fun c z di hGc hz hd => ?_⟩, by omega, hos, ht, ho, fun B hB h => hk B (Ne.symm (h b y bi hb hy hm)), fun c z di hc' hz hd => ?_, fun c z hc' hz => ⟨z, (old c z hz (by omega)).1⟩, hG⟩
  · obtain rfl : c = σ.next := by simp [Mem.push, Mem.kill] at h2; omega
    exact hn
  · refine key c ?_
    simp [Mem.push, Mem.kill] at hc'
    omega
  · obtain ⟨di, h1, h2⟩ := hs.glob g hg'
    exact ⟨di, he _ _ h1, h2⟩
  · by_cases e : c = σ.next
    · obtain ⟨rfl, rfl⟩ := at_c c z di hz hd e
      exact hx _ he
    · rw [key c e] at hd
      obtain ⟨h1, h2⟩ := old c z hz e
      have k := hs.blk c z di h1 hd
      exact k.keep (hk _ fun e' => h2 (hs.inj c b z y di bi h1 hy hd hm e')) he
  · by_cases e1 : c = σ.next <;> by_cases e2 : c' = σ.next
    · rw [e1, e2]
    · obtain ⟨rfl, rfl⟩ := at_c c z di hz hd e1
      rw [key c' e2] at hd'
      obtain ⟨h1, h2⟩ := old c' z' hz' e2
      exact absurd (hs.inj c' b z' y di' bi h1 hy hd' hm (by omega)) h2
    · obtain ⟨rfl, rfl⟩ := at_c c' z' di' hz' hd' e2
      rw [key c e1] at hd
      obtain ⟨h1, h2⟩ := old c z hz e1
      exact absurd (hs.inj c b z y di bi h1 hy hd hm (by omega)) h2
    · rw [key c e1] at hd
      rw [key c' e2] at hd'
      exact hs.inj c c' z z' di di' (old c z hz e1).1 (old c' z' hz' e2).1 hd hd' e
  · by_cases e : c = σ.next
    · obtain ⟨rfl, rfl⟩ := at_c c z di hz hd e
      exact hsz0
    · rw [key c e] at hd
      exact hs.rw_ c z di hGc (old c z hz e).1 hd
  · by_cases e : c = σ.next
    · obtain ⟨rfl, rfl⟩ := at_c c z di hz hd e
      exact .inr ⟨b, y, bi, hb, hy, hm, hc.symm⟩
    · have := Mem.lt (old c z hz e).1
      omega
theorem Stp.drew {σ σ' : Mem} {μ μ' : Mu} {w w' : World} (h : Stp G σ μ w.drew σ' μ' w') : Stp G σ μ w σ' μ' w' :=
  ⟨h.next, h.fresh, h.ext, h.sim, h.size, h.os, h.tape, h.output, h.keep, h.new, h.live, h.low⟩

/-- The cells that a slice or a string holds. -/
def byteV (b : UInt8) : Value := .int .u8 b.toNat
def srcF (σ : Mem) (size : Nat) : Value → Option (Nat × List Value)
  | .string s => if size = 1 then some (s.size, s.data.toList.map byteV) else none
  | .slice none 0 0 => some (0, [])
  | .slice (some ⟨b, p, _⟩) n _ => if n = 0 then some (0, []) else (match σ.get b with
    | some (.row r) => if p + n * size ≤ r.cs.length then some (n, (r.cs.drop p).take (n * size)) else none
    | _ => none)
  | _ => none
theorem srcF_len {σ : Mem} {size n : Nat} {x : Value} {xs : List Value} (h : srcF σ size x = some (n, xs)) : xs.length = n * size := by
  unfold srcF at h
  split at h
  · split at h
    · rename_i hs; cases h; simp [hs]
    · cases h
  · cases h; simp
  · split at h
    · rename_i hn; cases h; simp
    · split at h
      · split at h
        · cases h; simp; omega
        · cases h
      · cases h
  · cases h
theorem src_rel {σ : Mem} {μ : Mu} {w : World} (hs : Sim G μ σ w) {size n : Nat} {x x' : Value} {xs : List Value} (hx : VRel μ x x') (h : srcF σ size x = some (n, xs)) :
    (Builtin.lenOf x').run P w = .ok n w ∧ ∃ xs' : List Value, xs'.length = xs.length ∧ (Builtin.firstCells size n x').run P w = .ok xs'.toArray w ∧ ∀ (i : Nat) y y', xs[i]? = some y → xs'[i]? = some y' → VRel μ y y' := by
  have hl := srcF_len h
  unfold srcF at h
  split at h
  · rename_i s
    split at h
    · cases h
      have e := flatV_eq rfl hx
      subst e
      refine ⟨rfl, s.data.toList.map byteV, rfl, ?_, fun i y y' h1 h2 => ?_⟩
      · simp only [Builtin.firstCells, Sem.run_pure]
        congr 1
        apply Array.ext'
        have e : s.extract 0 s.size = s := by simp
        rw [e]
        simp [byteV]
      · rw [h1] at h2
        cases h2
        rw [List.getElem?_map] at h1
        cases hb : s.data.toList[i]? with
        | none => rw [hb] at h1; cases h1
        | some u => rw [hb] at h1; cases h1; exact .flat _ rfl
    · cases h
  · cases h
    have e := flatV_eq rfl hx
    subst e
    exact ⟨rfl, [], rfl, rfl, by simp⟩
  · rename_i b p sp n' c
    obtain ⟨bi, q, c', hb, e, _, hq⟩ := hx.slice_inv
    subst e
    split at h
    · rename_i hn
      subst hn
      cases h
      refine ⟨rfl, [], rfl, ?_, by simp⟩
      simp [Builtin.firstCells, loadCells, loadCellsFrom]
    · rename_i hn
      split at h
      · rename_i r hr
        split at h
        · rename_i hfit
          cases h
          have hq := hq hn
          subst hq
          have hc : CellsIn w μ b p ((r.cs.drop p).take (n * size)) := CellsIn.of_row hs hb hr fun i v hv => by
            rw [List.getElem?_take] at hv
            split at hv
            · rw [List.getElem?_drop] at hv; exact hv
            · cases hv
          obtain ⟨bi', cs', hb', hl', hcell, hrel⟩ := cells_of hc
          rw [hb] at hb'
          cases hb'
          refine ⟨rfl, cs', hl', ?_, hrel⟩
          simp only [Builtin.firstCells]
          have := run_loadCells_list (P := P) w ⟨bi.blk, bi.sh + p, none⟩ cs' hcell
          rw [hl', hl] at this
          exact this
        · cases h
      · cases h
  · cases h
/-- append, where there is room. -/
def isIntD : TypeDesc → Bool | .int _ => true | _ => false
theorem not_int {u : TypeId} {d : TypeDesc} (h : P.underlying u = some d) (hd : isIntD d = false) : ∃ d, P.underlying u = some d ∧ ∀ k, d ≠ .int k := ⟨d, h, fun k e => by rw [e] at hd; cases hd⟩
/-- The cells of zeros, one behind the other. -/
def zerosN (l : List Value) : Nat → List Value
  | 0 => []
  | n + 1 => l ++ zerosN l n
theorem zerosN_len (l : List Value) : ∀ n, (zerosN l n).length = n * l.length
  | 0 => by simp [zerosN]
  | n + 1 => by simp [zerosN, zerosN_len l n, Nat.add_mul]; omega
theorem zerosN_get (l : List Value) : ∀ n i, i < n * l.length → (zerosN l n)[i]? = l[i % l.length]?
  | 0, i, h => by simp at h
  | n + 1, i, h => by
    simp only [zerosN, List.getElem?_append]
    by_cases hi : i < l.length
    · simp [hi, Nat.mod_eq_of_lt hi]
    · rw [if_neg hi, zerosN_get l n (i - l.length) (by rw [Nat.add_mul] at h; omega)]
      rw [Nat.mod_eq_sub_mod (by omega : i ≥ l.length)]
theorem zeroCells_eq (z : Array Value) (n : Nat) : (Builtin.zeroCells z n).toList = zerosN z.toList n := by
  apply List.ext_getElem?
  intro i
  by_cases h : i < n * z.size
  · rw [zerosN_get _ _ _ (by simpa using h)]
    have h0 : 0 < z.size := by
      rcases Nat.eq_zero_or_pos z.size with e | e
      · rw [e] at h; simp at h
      · exact e
    have h1 : i % z.size < z.size := Nat.mod_lt _ h0
    simp [Builtin.zeroCells, h, h1]
  · rw [List.getElem?_eq_none (by simp [Builtin.zeroCells]; omega), List.getElem?_eq_none (by simp [zerosN_len]; omega)]
/-- What is appended. -/
def AppSrc (P : Program) (u : TypeId) (i : TypeInfo) (z x : Value) (n : Nat) (w wd : World) (new : Array Value) : Prop :=
  ((∃ d, P.underlying u = some d ∧ ∀ k, d ≠ .int k) ∧ (Builtin.lenOf x).run P w = .ok n w ∧ (Builtin.firstCells i.size n x).run P wd = .ok new wd)
  ∨ (∃ k k', P.underlying u = some (.int k) ∧ x = .int k' (.ofNat n) ∧ n ≤ 1000000000 ∧ n * i.bytes ≤ 1000000000 ∧ new = Builtin.zeroCells z.cells n ∧ z.cells.size = i.size)
theorem wrap_nat {n : Nat} (h : n ≤ 1000000000) : IntKind.i64.wrap (Int.ofNat n) = Int.ofNat n := by
  simp [IntKind.wrap, IntKind.bits, IntKind.signed]
  omega
theorem append_room {t u ty e : TypeId} {i : TypeInfo} {z : Value} {w w' : World} {base : Option Addr} {l c n : Nat} {x : Value} {new : Array Value} (ht : P.underlying t = some (.slice e)) (hi : P.info? e = some i) (hz : i.zero = some z)
    (hs : AppSrc P u i z x n w w new) (hroom : l + n ≤ c) (hst : ∀ a, base = some a → (storeCells (a.add (l * i.size)) new.toList).run P w = .ok () w') (hnone : base = none → w' = w) :
    (Builtin.append_ #[t, u] ty #[.slice base l c, x]).run P w = .ok (.slice base (l + n) c) w' := by
  rcases hs with ⟨⟨d, hd, hk⟩, hl, hf⟩ | ⟨k, k', hd, rfl, hn, hb, rfl, hzi⟩
  · have hzz : (match d with | TypeDesc.int _ => true | _ => false) = false := by cases d <;> first | rfl | exact absurd rfl (hk _)
    simp [Builtin.append_, run_underlying ht, run_underlying hd, sizeOf, typeInfo, hi, hl, hroom, hf]
    cases base with
    | none => simp [hnone rfl]
    | some a => simp [hst a rfl]
  · have h1 : ¬ (281474976710656 < (n : Int) * (i.bytes : Int)) := by
      rw [← Int.natCast_mul]
      omega
    have h2 : ¬ ((n : Int) < 0) := by omega
    have e0 : n * i.size = 0 → Builtin.zeroCells z.cells n = #[] := fun h => by
      apply Array.eq_empty_of_size_eq_zero
      simp [Builtin.zeroCells]
      rw [← hzi] at h
      simpa using h
    have hw : IntKind.i64.wrap (n : Int) = n := wrap_nat hn
    simp [Builtin.append_, run_underlying ht, run_underlying hd, sizeOf, typeInfo, zeroValue, hi, hz, asInt, asIntOf, hw, h1, h2, hroom]
    split
    · rename_i hz0
      rw [e0 (by simpa using hz0)] at hst
      cases base with
      | none => simp [hnone rfl]
      | some a => simp [hst a rfl]
    · cases base with
      | none => simp [hnone rfl]
      | some a => simp [hst a rfl]
/-- append, where there is none. -/
theorem append_grow {t u ty e : TypeId} {i : TypeInfo} {z : Value} {w : World} {base : Option Addr} {l c n : Nat} {x : Value} {old new : Array Value} (ht : P.underlying t = some (.slice e)) (hi : P.info? e = some i) (hz : i.zero = some z)
    (hs : AppSrc P u i z x n w w.drew new) (ho : (Builtin.firstCells i.size l (.slice base l c)).run P w.drew = .ok old w.drew) (hroom : c < l + n) (h63 : l + n ≤ 9223372036854775807) (h48 : (l + n) * i.bytes ≤ 140737488355328) :
    ∃ cap, l + n ≤ cap ∧ (Builtin.append_ #[t, u] ty #[.slice base l c, x]).run P w = .ok (.slice (some ⟨w.heap.size, 0, none⟩) (l + n) cap) (w.drew.alloc (.cells (old ++ new ++ Builtin.zeroCells z.cells (cap - (l + n))) e)) := by
  have hn : ¬ (l + n ≤ c) := by omega
  have hfit := growslice_fits hroom h48
  have h48' : ¬ (281474976710656 < Builtin.nextslicecap (l + n) c * i.bytes) := by omega
  have h63' : ¬ (9223372036854775807 < ((l : Int) + (n : Int))) := by omega
  refine ⟨grownCap w (l + n) c e, by unfold grownCap; simp [Question.cut], ?_⟩
  rcases hs with ⟨⟨d, hd, hk⟩, hl, hf⟩ | ⟨k, k', hd, rfl, hn1, hb, rfl, hzi⟩
  · have hzz : (match d with | TypeDesc.int _ => true | _ => false) = false := by cases d <;> first | rfl | exact absurd rfl (hk _)
    simp [Builtin.append_, run_underlying ht, run_underlying hd, sizeOf, typeInfo, zeroValue, hi, hz, hl, hn, h63', h48', Question.forced, hf, ho, newRow, grownCap]
  · have h1 : ¬ (281474976710656 < (n : Int) * (i.bytes : Int)) := by
      rw [← Int.natCast_mul]
      omega
    have h2 : ¬ ((n : Int) < 0) := by omega
    have e0 : n * i.size = 0 → Builtin.zeroCells z.cells n = #[] := fun h => by
      apply Array.eq_empty_of_size_eq_zero
      simp [Builtin.zeroCells]
      rw [← hzi] at h
      simpa using h
    have hw : IntKind.i64.wrap (n : Int) = n := wrap_nat hn1
    simp [Builtin.append_, run_underlying ht, run_underlying hd, sizeOf, typeInfo, zeroValue, hi, hz, asInt, asIntOf, hw, h1, h2, hn, h63', h48', Question.forced, ho, newRow, grownCap]
    intro hz0
    rw [e0 hz0]
    simp
def srcG (d : TypeDesc) (i : TypeInfo) (z : Value) (σ : Mem) (x : Value) : Option (Nat × List Value) := match d with
  | .int _ => (match x with
    | .int _ (.ofNat n) => if n ≤ 1000000000 ∧ n * i.bytes ≤ 1000000000 ∧ closedV 2 z = true ∧ z.cells.size = i.size then some (n, zerosN z.cells.toList n) else none
    | _ => none)
  | _ => srcF σ i.size x
theorem srcG_len {d : TypeDesc} {i : TypeInfo} {z : Value} {σ : Mem} {n : Nat} {x : Value} {xs : List Value} (h : srcG d i z σ x = some (n, xs)) : xs.length = n * i.size := by
  unfold srcG at h
  split at h
  · split at h
    · split at h
      · rename_i hk
        cases h
        rw [zerosN_len, Array.length_toList, hk.2.2.2]
      · cases h
    · cases h
  · exact srcF_len h
/-- What is appended, in both memories. -/
theorem srcG_rel {u : TypeId} {d : TypeDesc} {i : TypeInfo} {z : Value} {σ : Mem} {μ : Mu} {w wd : World} (hd : P.underlying u = some d) (hs : Sim G μ σ w) (hsd : Sim G μ σ wd) {n : Nat} {x x' : Value} {xs : List Value} (hx : VRel μ x x') (h : srcG d i z σ x = some (n, xs)) :
    ∃ xs' : List Value, xs'.length = xs.length ∧ AppSrc P u i z x' n w wd xs'.toArray ∧ ∀ (j : Nat) y y', xs[j]? = some y → xs'[j]? = some y' → VRel μ y y' := by
  unfold srcG at h
  split at h
  · split at h
    · split at h
      · rename_i k _ k' m hk
        cases h
        have e := flatV_eq rfl hx
        subst e
        have hz := (closedV_rel μ 2 z hk.2.2.1).cells
        refine ⟨zerosN z.cells.toList n, rfl, .inr ⟨k, k', hd, rfl, hk.1, hk.2.1, ?_, hk.2.2.2⟩, fun j y y' h1 h2 => ?_⟩
        · apply Array.ext'
          rw [zeroCells_eq]
        · rw [h1] at h2
          cases h2
          have hj : j < (zerosN z.cells.toList n).length := (List.getElem?_eq_some_iff.1 h1).1
          rw [zerosN_len] at hj
          rw [zerosN_get _ _ _ hj, Array.getElem?_toList] at h1
          exact hz.2 _ _ _ h1 h1
      · cases h
    · cases h
  · rename_i hne
    obtain ⟨g1, _⟩ := src_rel (P := P) hs hx h
    obtain ⟨_, xs', g2, g3, g4⟩ := src_rel (P := P) hsd hx h
    exact ⟨xs', g2, .inl ⟨⟨d, hd, fun k e => hne k e⟩, g1, g3⟩, g4⟩
/-- A row goes on in its own block: the cells. -/
theorem regrow_in {σ : Mem} {μ : Mu} {w : World} (hs : Sim G μ σ w) (hG : G ≤ σ.next) (hn : μ σ.next = none) {b : Nat} {r : Row} {bi : BI} (hb : G ≤ b) (hy : σ.get b = some (.row r)) (hm : μ b = some bi) {q cc' l n size : Nat} {old xs xs' : List Value} {cc : Array Value} {fz : Nat × Nat} (hsz : 0 < size) (hh : w.heap[bi.blk]? = some (.cells cc r.t fz)) (hf : fz = (0, 0) ∨ cc.size ≤ fz.1)
    (hq : q + cc' * size = cc.size) (hroom : l + n ≤ cc') (hlo : old.length = l * size) (hlx : xs.length = n * size) (hlx' : xs'.length = xs.length) (hold : ∀ (i : Nat) y, old[i]? = some y → ∃ y', cc[q + i]? = some y' ∧ VRel μ y y') (hxs : ∀ (i : Nat) y y', xs[i]? = some y → xs'[i]? = some y' → VRel μ y y') (h1 : ∀ x ∈ xs, x.oneCell' = true) :
    ∃ w', (storeCells ((⟨bi.blk, q, none⟩ : Addr).add (l * size)) xs').run P w = .ok () w' ∧ Stp G σ μ w ((σ.kill b).push (.row ⟨old ++ xs, r.t, true⟩)) (μ.add σ.next ⟨bi.blk, q, (l + n) * size, cc' - (l + n), size⟩) w' := by
  have hmul : (l + n) * size ≤ cc' * size := Nat.mul_le_mul_right _ hroom
  have hdist : (l + n) * size = l * size + n * size := Nat.add_mul _ _ _
  have h1' : ∀ x ∈ xs', x.oneCell' = true := fun x hx => by
    obtain ⟨i, hi, e⟩ := List.mem_iff_getElem.1 hx
    have hi' : i < xs.length := by omega
    have := hxs i xs[i] xs'[i] (by simp [hi']) (by simp [hi])
    rw [← e, this.one]
    exact h1 _ (List.getElem_mem _)
  have hfit : q + l * size + 0 + xs'.length ≤ cc.size := by omega
  have hrun := storeCells_fz (P := P) bi.blk (q + l * size) r.t fz xs' 0 cc w hh (hf.imp (fun h => by rw [h]) id) hfit h1'
  rw [add_none]
  refine ⟨_, hrun, Stp.regrow hs hG hn hb hy hm rfl hsz (by simp [World.setRow]) rfl rfl rfl (fun B hB => setRow_other _ _ _ _ hB) fun μ' he => ?_⟩
  have hfit' : q + l * size + 0 + xs'.length ≤ cc.toList.length := by simpa using hfit
  have hol := overL_len hfit'
  refine ⟨by simp [hlo, hlx, hdist], _, fz, r.t, setRow_heap w bi.blk cc _ r.t fz hh, fun _ => ⟨rfl, ?_, ?_, fun h => by cases h⟩, fun i x hi => ?_⟩
  · simp only [List.size_toArray, hol, Array.length_toList]
    exact hf
  · simp only [List.size_toArray, hol, Array.length_toList]
    have : (l + n) * size + (cc' - (l + n)) * size = cc' * size := by rw [← Nat.add_mul]; congr 1; omega
    omega
  · simp only [List.getElem?_toArray]
    rw [overL_get hfit']
    simp only [List.getElem?_append] at hi
    by_cases hl : i < old.length
    · rw [if_pos hl] at hi
      rw [if_neg (by omega)]
      obtain ⟨y', h2, h3⟩ := hold i x hi
      exact ⟨y', by simpa using h2, h3.ext he⟩
    · rw [if_neg hl] at hi
      have hlt : i - old.length < xs.length := (List.getElem?_eq_some_iff.1 hi).1
      rw [if_pos (by omega), show q + i - (q + l * size + 0) = i - old.length by omega]
      have hlt' : i - old.length < xs'.length := by omega
      exact ⟨xs'[i - old.length], by simp [hlt'], (hxs _ _ _ hi (by simp [hlt'])).ext he⟩
/-- A row goes on in a new block. -/
theorem grow_new {σ : Mem} {μ : Mu} {w : World} (hs : Sim G μ σ w) (hG : G ≤ σ.next) (hn : μ σ.next = none) {m cap size : Nat} {xs xs' : List Value} {z : Array Value} {e : TypeId} (hsz : 0 < size) (hlx : xs.length = m * size) (hlx' : xs'.length = xs.length) (hz : z.size = size) (_hcap : m ≤ cap) (hxs : ∀ (i : Nat) y y', xs[i]? = some y → xs'[i]? = some y' → VRel μ y y') :
    Stp G σ μ w (σ.push (.row ⟨xs, e, true⟩)) (μ.add σ.next ⟨w.heap.size, 0, m * size, cap - m, size⟩) (w.drew.alloc (.cells (xs'.toArray ++ Builtin.zeroCells z (cap - m)) e)) := by
  refine Stp.grow hs hG hn rfl hsz (by simp) rfl rfl rfl (fun B hB => RowKit.Below.heap_alloc w.drew _ _ hB) fun μ' he => ?_
  refine ⟨hlx, _, (0, 0), e, (by show (w.heap.push _)[w.heap.size]? = _; simp; rfl), fun _ => ⟨rfl, .inl rfl, ?_, fun h => by cases h⟩, fun i x hi => ?_⟩
  · simp [Builtin.zeroCells, hz, hlx', hlx]
  · have hlt : i < xs.length := (List.getElem?_eq_some_iff.1 hi).1
    have hlt' : i < xs'.length := by omega
    refine ⟨xs'[i], ?_, (hxs i x _ hi (by simp [hlt'])).ext he⟩
    simp only [Nat.zero_add]
    rw [Array.getElem?_append_left (by simpa using hlt')]
    simp [hlt']
/-- What an effect does to the second memory. -/
inductive MCmd where
  | same
  | push (x : Blk2)
  | put (b : Nat) (x : Blk2)
  | kpush (b : Nat) (x : Blk2)
  | kill (b : Nat)
def MCmd.app (σ : Mem) : MCmd → Mem
  | .same => σ
  | .push x => σ.push x
  | .put b x => σ.put b x
  | .kpush b x => (σ.kill b).push x
  | .kill b => σ.kill b
/-- append. -/
noncomputable def appendF (G : Nat) (P : Program) (σ : Mem) (t u : TypeId) (s x : Value) : Option (Value × MCmd) :=
  match uT P t, uT P u with
  | some (.slice e), some d => (match iT P e with
    | some i => (match i.zero with
      | some z => if z.cells.size = i.size ∧ 0 < i.size then (match srcG d i z σ x with
        | some (n, xs) => if n = 0 then (match s with
            | .slice none 0 0 => some (s, .same)
            | .slice (some ⟨_, _, _⟩) l c => if l ≤ c then some (s, .same) else none
            | _ => none)
          else (match s with
            | .slice none 0 0 => if n ≤ 1000000000 ∧ n * i.bytes ≤ 1000000000 then some (.slice (some ⟨σ.next, 0, some i.size⟩) n n, .push (.row ⟨xs, e, true⟩)) else none
            | .slice (some ⟨b, p, sp⟩) l c => (match σ.get b with
              | some (.row r) => if l + n ≤ c then (if G ≤ b ∧ p + l * i.size + xs.length ≤ r.cs.length ∧ xs.all (·.oneCell') = true then some (.slice (some ⟨b, p, sp⟩) (l + n) c, .put b (.row ⟨overL r.cs (p + l * i.size) xs, r.t, r.g⟩)) else none)
                else if (l + n) ≤ 1000000000 ∧ (l + n) * i.bytes ≤ 1000000000 ∧ p + l * i.size ≤ r.cs.length then (match sp with
                  | none => some (.slice (some ⟨σ.next, 0, some i.size⟩) (l + n) (l + n), .push (.row ⟨(r.cs.drop p).take (l * i.size) ++ xs, e, true⟩))
                  | some sz => if sz = i.size ∧ G ≤ b ∧ r.t = e ∧ xs.all (·.oneCell') = true then some (.slice (some ⟨σ.next, 0, some i.size⟩) (l + n) (l + n), .kpush b (.row ⟨(r.cs.drop p).take (l * i.size) ++ xs, e, true⟩)) else none)
                else none
              | _ => none)
            | _ => none)
        | none => none) else none
      | none => none)
    | none => none)
  | _, _ => none
theorem wp_append {t u : TypeId} {c : Call} {s x : Operand} (ho : o.op = .call c) (hc : c.callee = .builtin .append) (ha : c.args = #[s, x]) (ht : c.argTypes = #[t, u]) {a : Act} {w w' : World} {vc : Value} (h : (Builtin.append_ #[t, u] o.type #[a.eval s, a.eval x]).run P w = .ok vc w') : (execOp a.eval o).run P w = .ok (.value vc) w' := by
  unfold execOp
  simp only [ho, Sem.run_bind, resolve, hc, ha, ht, Result.andThen_ok, Sem.run_pure]
  simp [invoke, builtin, h]
theorem VRel.sliceE_inv {μ : Mu} {b p n c : Nat} : ∀ {v' : Value}, VRel μ (.slice (some ⟨b, p, none⟩) n c) v' → ∃ bi, μ b = some bi ∧ v' = .slice (some ⟨bi.blk, bi.sh + p, none⟩) n c
  | _, .flat _ h => by simp [flatV] at h
  | _, .sliceE _ _ _ _ bi h => ⟨bi, h, rfl⟩
theorem VRel.sliceG_inv {μ : Mu} {b p n c sz : Nat} : ∀ {v' : Value}, VRel μ (.slice (some ⟨b, p, some sz⟩) n c) v' → ∃ bi, μ b = some bi ∧ 0 < sz ∧ bi.sz = sz ∧ ((v' = .slice (some ⟨bi.blk, bi.sh + p, none⟩) n (c + bi.r) ∧ p + c * sz = bi.len) ∨ (n = 0 ∧ c = 0 ∧ v' = .slice (some ⟨bi.blk, bi.sh + bi.len, none⟩) 0 bi.r) ∨ (n = 0 ∧ c = 0 ∧ ∃ q, v' = .slice (some ⟨bi.blk, q, none⟩) 0 0))
  | _, .flat _ h => by simp [flatV] at h
  | _, .sliceR _ _ _ _ _ bi h hz hs he => ⟨bi, h, hz, hs, .inl ⟨rfl, he⟩⟩
  | _, .sliceN _ _ _ bi h hz hs => ⟨bi, h, hz, hs, .inr (.inl ⟨rfl, rfl, rfl⟩)⟩
  | _, .sliceZ _ _ _ q bi h hz hs => ⟨bi, h, hz, hs, .inr (.inr ⟨rfl, rfl, q, rfl⟩)⟩
theorem mk_grown {μ : Mu} {b n r sz B q : Nat} (h : μ b = some ⟨B, q, n * sz, r, sz⟩) (hz : 0 < sz) : VRel μ (.slice (some ⟨b, 0, some sz⟩) n n) (.slice (some ⟨B, q, none⟩) n (n + r)) := by
  have := VRel.sliceR (μ := μ) b 0 n n sz ⟨B, q, n * sz, r, sz⟩ h hz rfl (by simp)
  simpa using this
theorem eop_append {t u : TypeId} {c : Call} {s x : Operand} {σ : Mem} {cmd : MCmd} (ho : o.op = .call c) (hc : c.callee = .builtin .append) (ha : c.args = #[s, x]) (ht : c.argTypes = #[t, u]) (h : appendF G P σ t u (ρ s) (ρ x) = some (v, cmd)) : EOp G P o ρ σ v (cmd.app σ) := by
  have hops : ∀ y, y = s ∨ y = x → y ∈ (Op.call c).operands := fun y hy => by
    simp only [Op.operands, Call.operands, hc, ha]
    rcases hy with rfl | rfl <;> simp
  unfold appendF at h
  try simp only [uT_eq, iT_eq] at h
  split at h
  · rename_i e d hu hd
    · skip
      split at h
      · rename_i i hi
        split at h
        · rename_i z hz
          split at h
          · rename_i hzs
            obtain ⟨hz1, hz2⟩ := hzs
            have hsz : sizeT P e = some i.size := by simp [sizeT, hi]
            split at h
            · rename_i n xs hsrc
              have hlx := srcG_len hsrc
              split at h
              · -- nothing is appended
                rename_i hn
                subst hn
                have key : ∀ (base : Option Addr) (l cp : Nat), l ≤ cp → ∀ (w : World) (a : Act) (μ : Mu), Sim G μ σ w → ORel μ ρ a.eval (Op.call c).operands → a.eval s = .slice base l cp → (execOp a.eval o).run P w = .ok (.value (.slice base l cp)) w := fun base l cp hle w a μ hs hor es => by
                  obtain ⟨xs', g2, g3, g4⟩ := srcG_rel (P := P) hd hs hs (hor x (hops x (.inr rfl))) hsrc
                  refine wp_append ho hc ha ht ?_
                  have hx0 : xs' = [] := by have : xs'.length = 0 := by omega
                                            exact List.eq_nil_of_length_eq_zero this
                  subst hx0
                  rw [es]
                  exact append_room hu hi hz g3 (by omega) (fun b _ => by simp [storeCells]) (fun _ => rfl)
                split at h
                · rename_i hsv
                  cases h
                  refine ⟨Nat.le_refl _, fun μ w a hs hG _ hor K Q k rd => ?_⟩
                  rw [ho] at hor
                  have hv := hor s (hops s (.inl rfl))
                  have es : a.eval s = .slice none 0 0 := by rw [hsv] at hv; exact flatV_eq rfl hv
                  exact wp_of_value (key none 0 0 (Nat.le_refl _) w a μ hs hor es) (k _ w μ (Stp.refl hs hG) (by rw [← es]; exact hv))
                · rename_i b p sp l cp hsv
                  split at h
                  · rename_i hle
                    cases h
                    refine ⟨Nat.le_refl _, fun μ w a hs hG _ hor K Q k rd => ?_⟩
                    rw [ho] at hor
                    have hv := hor s (hops s (.inl rfl))
                    have hv' := hv
                    rw [hsv] at hv'
                    obtain ⟨bi, q, c', hb, es, hcc, _⟩ := hv'.slice_inv
                    exact wp_of_value (key _ l c' (by omega) w a μ hs hor es) (k _ w μ (Stp.refl hs hG) (by rw [← es]; exact hv))
                  · cases h
                · cases h
              · rename_i hn
                split at h
                · -- onto nil
                  rename_i hsv
                  split at h
                  · rename_i hb
                    cases h
                    refine ⟨by simp [MCmd.app, Mem.push], fun μ w a hs hG hf hor K Q k rd => ?_⟩
                    rw [ho] at hor
                    have hv := hor s (hops s (.inl rfl))
                    rw [hsv] at hv
                    have es := flatV_eq rfl hv
                    obtain ⟨xs', g2, g3, g4⟩ := srcG_rel (P := P) hd hs (wd := w.drew) (hs.drawn rfl) (hor x (hops x (.inr rfl))) hsrc
                    obtain ⟨cap, hcap, hrun⟩ := append_grow (P := P) (t := t) (u := u) (ty := o.type) (base := none) (l := 0) (c := 0) (old := #[]) hu hi hz g3 rfl (by omega) (by omega) (by simp; omega)
                    rw [← es] at hrun
                    have hn0 := hf σ.next (Nat.le_refl _) (by simp [MCmd.app, Mem.push])
                    have st := grow_new (cap := cap) (e := e) hs hG hn0 hz2 hlx g2 hz1 (by omega) g4
                    refine wp_of_value (wp_append ho hc ha ht hrun) (k _ _ (μ.add σ.next ⟨w.heap.size, 0, n * i.size, cap - n, i.size⟩) ?_ ?_)
                    · simp only [Nat.zero_add, Array.empty_append]
                      exact st
                    · have := mk_grown (μ := μ.add σ.next ⟨w.heap.size, 0, n * i.size, cap - n, i.size⟩) (Mu.add_at _ _ _) hz2
                      simp only [Nat.zero_add]
                      rw [show n + (cap - n) = cap by omega] at this
                      exact this
                  · cases h
                · rename_i b p sp l cp hsv
                  split at h
                  · rename_i r hr
                    split at h
                    · rename_i hroom
                      split at h
                      · -- there is room
                        rename_i hb
                        obtain ⟨hb1, hb2, hb3⟩ := hb
                        cases h
                        refine ⟨Nat.le_refl _, fun μ w a hs hG hf hor K Q k rd => ?_⟩
                        rw [ho] at hor
                        have hv := hor s (hops s (.inl rfl))
                        rw [hsv] at hv
                        obtain ⟨xs', g2, g3, g4⟩ := srcG_rel (P := P) hd hs hs (hor x (hops x (.inr rfl))) hsrc
                        have inv : ∃ bi c', μ b = some bi ∧ a.eval s = .slice (some ⟨bi.blk, bi.sh + p, none⟩) l c' ∧ cp ≤ c' ∧ VRel μ (.slice (some ⟨b, p, sp⟩) (l + n) cp) (.slice (some ⟨bi.blk, bi.sh + p, none⟩) (l + n) c') := by
                          cases sp with
                          | none =>
                            obtain ⟨bi, h', e'⟩ := hv.sliceE_inv
                            exact ⟨bi, _, h', e', Nat.le_refl _, .sliceE _ _ _ _ bi h'⟩
                          | some sz =>
                            obtain ⟨bi, h', k1, k2, ⟨e', k3⟩ | ⟨k4, k5, _⟩ | ⟨k4, k5, _⟩⟩ := hv.sliceG_inv
                            · exact ⟨bi, _, h', e', by omega, .sliceR _ _ _ _ _ bi h' k1 k2 k3⟩
                            · omega
                            · omega
                        obtain ⟨bi, c', hbi, es, hcc, hvv⟩ := inv
                        obtain ⟨w', hrun, hst⟩ := Stp.write (P := P) hs hG hb1 hr hbi (p := p + l * i.size) (vs := xs) (vs' := xs') hb2 g2 g4 (fun y hy => List.all_eq_true.1 hb3 y hy)
                        have hrun2 := append_room (P := P) (t := t) (u := u) (ty := o.type) (base := some ⟨bi.blk, bi.sh + p, none⟩) (l := l) (c := c') hu hi hz g3 (by omega) (w' := w') (fun b' hb' => by cases hb'; rw [add_none, Nat.add_assoc]; simpa using hrun) (fun hb' => by cases hb')
                        rw [← es] at hrun2
                        exact wp_of_value (wp_append ho hc ha ht hrun2) (k _ _ μ hst hvv)
                      · cases h
                    · rename_i hroom
                      split at h
                      · rename_i hbd
                        obtain ⟨hbd1, hbd2, hbd3⟩ := hbd
                        have holdlen : ((r.cs.drop p).take (l * i.size)).length = l * i.size := by simp; omega
                        have hnewlen : ((r.cs.drop p).take (l * i.size) ++ xs).length = (l + n) * i.size := by simp only [List.length_append, holdlen, hlx, Nat.add_mul]
                        -- what the old cells read as
                        have olds : ∀ {μ : Mu} {w : World} {bi : BI}, Sim G μ σ w → μ b = some bi → ∀ (cpc : Nat), ∃ os' : List Value, os'.length = l * i.size ∧ (Builtin.firstCells i.size l (.slice (some ⟨bi.blk, bi.sh + p, none⟩) l cpc)).run P w = .ok os'.toArray w ∧ ∀ (j : Nat) y y', ((r.cs.drop p).take (l * i.size))[j]? = some y → os'[j]? = some y' → VRel μ y y' := fun {μ w bi} hs hbi cpc => by
                          have hcin : CellsIn w μ b p ((r.cs.drop p).take (l * i.size)) := CellsIn.of_row hs hbi hr fun j v hv => by
                            rw [List.getElem?_take] at hv
                            split at hv
                            · rw [List.getElem?_drop] at hv; exact hv
                            · cases hv
                          obtain ⟨bi', cs', hb', hl', hcell, hrel⟩ := cells_of hcin
                          rw [hbi] at hb'
                          cases hb'
                          refine ⟨cs', by rw [hl', holdlen], ?_, hrel⟩
                          have := run_loadCells_list (P := P) w ⟨bi.blk, bi.sh + p, none⟩ cs' hcell
                          rw [hl', holdlen] at this
                          exact this
                        -- a new block
                        have fresh : ∀ {μ : Mu} {w : World} {a : Act} {base : Addr} {cpc : Nat} {os' : List Value} {K : Act → World → Prop} {Q : Exit → Act → World → Prop} {rd : Option Nat} {σ1 : Mem}, Sim G μ σ w → G ≤ σ.next → σ1.next = σ.next → Stp G σ μ w σ1 μ w → μ σ.next = none → ORel μ ρ a.eval (Op.call c).operands → a.eval s = .slice (some base) l cpc → cpc < l + n → os'.length = l * i.size → (Builtin.firstCells i.size l (.slice (some base) l cpc)).run P w.drew = .ok os'.toArray w.drew → (∀ (j : Nat) y y', ((r.cs.drop p).take (l * i.size))[j]? = some y → os'[j]? = some y' → VRel μ y y') →
                            (∀ vc w' μ', Stp G σ μ w (σ1.push (.row ⟨(r.cs.drop p).take (l * i.size) ++ xs, e, true⟩)) μ' w' → VRel μ' (.slice (some ⟨σ.next, 0, some i.size⟩) (l + n) (l + n)) vc → K (a.put o.dst vc) w') → o.wpIn (FW rd) 0 P a w K Q := fun {μ w a base cpc os' K Q rd σ1} hs hG hσ1 hst1 hn0 hor es hlt hol hof hrel k => by
                          obtain ⟨xs', g2, g3, g4⟩ := srcG_rel (P := P) hd hs (wd := w.drew) (hs.drawn rfl) (hor x (hops x (.inr rfl))) hsrc
                          obtain ⟨cap, hcap, hrun⟩ := append_grow (P := P) (t := t) (u := u) (ty := o.type) (base := some base) (l := l) (c := cpc) hu hi hz g3 hof hlt (by omega) (by omega)
                          rw [← es] at hrun
                          have st := grow_new (G := G) (σ := σ1) (cap := cap) (e := e) (xs' := os' ++ xs') hst1.sim (by omega) (by rw [hσ1]; exact hn0) hz2 hnewlen (by simp [hol, g2, holdlen]) hz1 hcap (fun j y y' h1 h2 => by
                            rw [List.getElem?_append] at h1 h2
                            rw [hol] at h2
                            rw [holdlen] at h1
                            split at h1
                            · rename_i hj; rw [if_pos hj] at h2; exact hrel j y y' h1 h2
                            · rename_i hj; rw [if_neg hj] at h2; exact g4 _ y y' h1 h2)
                          rw [hσ1] at st
                          refine wp_of_value (wp_append ho hc ha ht hrun) (k _ _ (μ.add σ.next ⟨w.heap.size, 0, (l + n) * i.size, cap - (l + n), i.size⟩) (hst1.trans ?_) ?_)
                          · have hap : (os' ++ xs').toArray = os'.toArray ++ xs'.toArray := by simp
                            rw [hap] at st
                            exact st
                          · have := mk_grown (μ := μ.add σ.next ⟨w.heap.size, 0, (l + n) * i.size, cap - (l + n), i.size⟩) (Mu.add_at _ _ _) hz2
                            rw [show l + n + (cap - (l + n)) = cap by omega] at this
                            exact this
                        split at h
                        · -- the capacity is known
                          cases h
                          refine ⟨by simp [MCmd.app, Mem.push], fun μ w a hs hG hf hor K Q k rd => ?_⟩
                          rw [ho] at hor
                          have hv := hor s (hops s (.inl rfl))
                          rw [hsv] at hv
                          obtain ⟨bi, hbi, es⟩ := hv.sliceE_inv
                          obtain ⟨os', ho1, ho2, ho3⟩ := olds (w := w.drew) (hs.drawn rfl) hbi cp
                          exact fresh hs hG rfl (Stp.refl hs hG) (hf σ.next (Nat.le_refl _) (by simp [MCmd.app, Mem.push])) hor es (by omega) ho1 ho2 ho3 k
                        · rename_i sz
                          split at h
                          · -- it is not
                            rename_i hb
                            obtain ⟨rfl, hb1, hb2, hb3⟩ := hb
                            cases h
                            refine ⟨by simp [MCmd.app, Mem.push, Mem.kill], fun μ w a hs hG hf hor K Q k rd => ?_⟩
                            rw [ho] at hor
                            have hv := hor s (hops s (.inl rfl))
                            rw [hsv] at hv
                            have hn0 : μ σ.next = none := hf σ.next (Nat.le_refl _) (by simp [MCmd.app, Mem.push, Mem.kill])
                            have hkill := Stp.kill (G := G) hs hG b
                            -- in its own block
                            have inplace : ∀ {bi : BI} {q cc' : Nat}, μ b = some bi → bi.sz = i.size → a.eval s = .slice (some ⟨bi.blk, q, none⟩) l cc' → l + n ≤ cc' → q + cc' * i.size = bi.sh + bi.len + bi.r * bi.sz → (l ≠ 0 → q = bi.sh + p) → o.wpIn (FW rd) 0 P a w K Q := fun {bi q cc'} hbi hbs es hle hqq hq => by
                              have hin := hs.blk b _ bi hr hbi
                              obtain ⟨cc, fz, t', hh, hfz', hcv⟩ := hin.lie
                              obtain ⟨rfl, hfz, hcs, hgr⟩ := hfz' (hs.rw_ b _ bi hb1 hr hbi)
                              obtain ⟨xs', g2, g3, g4⟩ := srcG_rel (P := P) hd hs hs (hor x (hops x (.inr rfl))) hsrc
                              obtain ⟨w', hrun, hst⟩ := regrow_in (P := P) hs hG hn0 hb1 hr hbi (q := q) (cc' := cc') (l := l) (n := n) (size := i.size) (old := (r.cs.drop p).take (l * i.size)) (xs := xs) (xs' := xs') hz2 hh hfz (by omega) hle holdlen hlx g2 (fun j y hj => by
                                have hjl : j < l * i.size := by have := (List.getElem?_eq_some_iff.1 hj).1; omega
                                have hl0 : l ≠ 0 := fun e0 => by rw [e0] at hjl; simp at hjl
                                rw [List.getElem?_take, if_pos hjl, List.getElem?_drop] at hj
                                obtain ⟨y', h2, h3⟩ := hcv _ y hj
                                exact ⟨y', by rw [hq hl0, Nat.add_assoc]; exact h2, h3⟩) g4 (fun y hy => List.all_eq_true.1 hb3 y hy)
                              have hrun2 := append_room (P := P) (t := t) (u := u) (ty := o.type) (base := some ⟨bi.blk, q, none⟩) (l := l) (c := cc') hu hi hz g3 hle (w' := w') (fun b' hb' => by cases hb'; simpa using hrun) (fun hb' => by cases hb')
                              rw [← es] at hrun2
                              rw [hb2] at hst
                              refine wp_of_value (wp_append ho hc ha ht hrun2) (k _ _ _ hst ?_)
                              have := mk_grown (μ := μ.add σ.next ⟨bi.blk, q, (l + n) * i.size, cc' - (l + n), i.size⟩) (Mu.add_at _ _ _) hz2
                              rw [show l + n + (cc' - (l + n)) = cc' by omega] at this
                              exact this
                            obtain ⟨bi, h', k1, k2, ⟨hy, k3⟩ | ⟨rfl, rfl, hy⟩ | ⟨rfl, rfl, q, hy⟩⟩ := hv.sliceG_inv
                            · by_cases hle : l + n ≤ cp + bi.r
                              · refine inplace h' k2 hy hle ?_ (fun _ => rfl)
                                rw [Nat.add_mul, k2]
                                omega
                              · obtain ⟨os', ho1, ho2, ho3⟩ := olds (w := w.drew) (hs.drawn rfl) h' (cp + bi.r)
                                exact fresh (σ1 := σ.kill b) hs hG rfl hkill hn0 hor hy (by omega) ho1 ho2 ho3 k
                            · by_cases hle : 0 + n ≤ bi.r
                              · refine inplace h' k2 hy hle ?_ (fun h => absurd rfl h)
                                rw [k2]
                              · exact fresh (σ1 := σ.kill b) (os' := []) hs hG rfl hkill hn0 hor hy (by omega) (by simp) (by simp [Builtin.firstCells, loadCells, loadCellsFrom]) (by simp) k
                            · exact fresh (σ1 := σ.kill b) (os' := []) hs hG rfl hkill hn0 hor hy (by omega) (by simp) (by simp [Builtin.firstCells, loadCells, loadCellsFrom]) (by simp) k
                          · cases h
                      · cases h
                  · cases h
                · cases h
            · cases h
          · cases h
        · cases h
      · cases h
  · cases h
end Go.Proofs.YtmlmnbcnfalaaaaDoor
