/-
  Effects besides: iteration over strings, conversions, maps, copy, methods. Over any program. Conditions: none.
-/
import Derived.Test.YtmlmnbcnfalaaaaDoorSk
import Derived.Laws.IdiomStrings
import Derived.Laws.BytesString
import Derived.Laws.Cover4
namespace Go.Proofs.YtmlmnbcnfalaaaaDoor
variable {P : Program} {G : Nat} {nt : Nat} {o : Oper} {ρ : Operand → Value} {v : Value}

/-- A step of an iteration over a string. -/
def nextF (s : ByteArray) (pos : Nat) : Value × Nat :=
  if pos < s.size then (.tuple #[.bool true, .int .i64 pos, .int .i32 (Utf8.decode s pos).1], pos + (Utf8.decode s pos).2) else (.tuple #[.bool false], pos)
theorem eop_next {it : Operand} {b pos : Nat} {s : ByteArray} {σ : Mem} (ho : o.op = .next it true) (hi : ρ it = .pointer (some ⟨b, 0, none⟩)) (hb : G ≤ b) (hx : σ.get b = some (.iter s pos)) : EOp G P o ρ σ (nextF s pos).1 (σ.put b (.iter s (nextF s pos).2)) := by
  refine ⟨Nat.le_refl _, fun μ w a hs hG _ hor K Q k rd => ?_⟩
  rw [ho] at hor
  have hv := hor it (by simp [Op.operands])
  rw [hi] at hv
  obtain ⟨bi, hm, e⟩ := hv.ptr_inv
  obtain ⟨hin, hsh⟩ := hs.blk b _ bi hx hm
  rw [hsh, Nat.zero_add] at e
  by_cases hp : pos < s.size
  · have st := Stp.setObj (o := .stringIter s (pos + (Utf8.decode s pos).2)) (y := .iter s (pos + (Utf8.decode s pos).2)) hs hG hb hx hm (fun w' hw => ⟨hw, hsh⟩)
    have e1 : nextF s pos = (.tuple #[.bool true, .int .i64 pos, .int .i32 (Utf8.decode s pos).1], pos + (Utf8.decode s pos).2) := by simp [nextF, hp]
    rw [e1] at k
    refine wp_of_value ?_ (k _ _ μ st (closedV_rel μ 2 (.tuple #[.bool true, .int .i64 pos, .int .i32 (Utf8.decode s pos).1]) (by simp [closedV, flatV])))
    unfold execOp
    simp [ho, Instr.next, e, getObj_run hin, setObj_run hin, hp, goInt]
  · have st := Stp.turn (y := .iter s pos) hs hG hb hx hm ⟨hin, hsh⟩ rfl rfl rfl rfl (fun B _ => rfl)
    have e1 : nextF s pos = (.tuple #[.bool false], pos) := by simp [nextF, hp]
    rw [e1] at k
    refine wp_of_value ?_ (k _ _ μ st (closedV_rel μ 2 (.tuple #[.bool false]) (by simp [closedV, flatV])))
    unfold execOp
    simp [ho, Instr.next, e, getObj_run hin, hp]

/-- A string's bytes, or its characters, in a row of their own. -/
noncomputable def convF (P : Program) (src dst : TypeId) (s : ByteArray) : Option (TypeId × List Value) :=
  match uT P src, uT P dst with
  | some .string, some (.slice e) => (match uT P e with
    | some (.int .u8) => some (e, s.data.toList.map byteV)
    | some (.int .i32) => if (Conv.runesFrom s s.size 0 #[]).size ≤ 1000000 then some (e, (Conv.runesFrom s s.size 0 #[]).toList) else none
    | _ => none)
  | _, _ => none
theorem runesFrom_closed (s : ByteArray) : ∀ (n i : Nat) (acc : Array Value), (∀ x ∈ acc.toList, flatV x = true) → ∀ x ∈ (Conv.runesFrom s n i acc).toList, flatV x = true := by
  intro n
  induction n with
  | zero => intro i acc h; exact h
  | succ n ih =>
    intro i acc h
    simp only [Conv.runesFrom]
    split
    · refine ih _ _ fun x hx => ?_
      simp at hx
      rcases hx with hx | rfl
      · exact h x (by simpa using hx)
      · rfl
    · exact h
theorem flat_list {μ : Mu} {l : List Value} (h : ∀ x ∈ l, flatV x = true) : ∀ (i : Nat) y y', l[i]? = some y → l[i]? = some y' → VRel μ y y' := fun i y y' h1 h2 => by
  rw [h1] at h2
  cases h2
  exact .flat y (h y (List.mem_of_getElem? h1))
theorem eop_conv {src dst e : TypeId} {x : Operand} {s : ByteArray} {cs : List Value} {σ : Mem} (ho : o.op = .convert src dst x) (hx : ρ x = .string s) (h : convF P src dst s = some (e, cs)) : EOp G P o ρ σ (.slice (some ⟨σ.next, 0, some 1⟩) cs.length cs.length) (σ.push (.row ⟨cs, e, true⟩)) := by
  refine ⟨by simp [Mem.push], fun μ w a hs hG hf hor K Q k rd => ?_⟩
  rw [ho] at hor
  have hv := hor x (by simp [Op.operands])
  rw [hx] at hv
  have ev := flatV_eq rfl hv
  have hn0 := hf σ.next (Nat.le_refl _) (by simp [Mem.push])
  unfold convF at h
  try simp only [uT_eq] at h
  split at h
  · rename_i e' hu hd
    split at h
    · rename_i he
      cases h
      have hrun := run_bytes_of_string (P := P) w src dst e s hu hd he
      have hcap := grownCap_ge w s.size 0 e
      generalize grownCap w s.size 0 e = cap at hrun hcap
      have hlen : (s.data.toList.map byteV).length = s.size := by rw [List.length_map, Array.length_toList]; rfl
      have hrow : (bytesRow s cap).size = cap := by
        have h1 : s.data.size = s.size := rfl
        simp only [bytesRow, Array.size_append, Array.size_map, Array.size_replicate, h1]
        omega
      rw [hlen] at k
      have st := Stp.grow (x := .row ⟨s.data.toList.map byteV, e, true⟩) (bi := ⟨w.heap.size, 0, s.size, cap - s.size, 1⟩) (w' := w.drew.alloc (.cells (bytesRow s cap) e ((bytesRow s cap).size, (bytesRow s cap).size + 1))) hs hG hn0 rfl (by simp) (by simp) rfl rfl rfl (fun B hB => RowKit.Below.heap_alloc w.drew _ _ hB) (fun μ' he' => by
        refine ⟨hlen, bytesRow s cap, ((bytesRow s cap).size, (bytesRow s cap).size + 1), e, (by show (w.heap.push _)[w.heap.size]? = _; simp), fun _ => ⟨rfl, .inr (Nat.le_refl _), by rw [hrow]; simp; omega, fun h => by cases h⟩, fun i y hy => ?_⟩
        have hi : i < s.size := by rw [← hlen]; exact (List.getElem?_eq_some_iff.1 hy).1
        refine ⟨y, ?_, ?_⟩
        · simp only [Nat.zero_add, bytesRow]
          rw [Array.getElem?_append_left (by rw [Array.size_map]; exact hi)]
          rw [Array.getElem?_map]
          simp only [List.getElem?_map, Array.getElem?_toList] at hy
          exact hy
        · simp only [List.getElem?_map] at hy
          cases hb : s.data.toList[i]? with
          | none => rw [hb] at hy; cases hy
          | some u => rw [hb] at hy; cases hy; exact .flat _ rfl)
      refine wp_of_value (v := .slice (some ⟨w.heap.size, 0, none⟩) s.size cap) ?_ (k _ _ _ st ?_)
      · unfold execOp
        simp only [ho, Sem.run_bind, ev, hrun, Result.andThen_ok]
        rfl
      · have := mk_grown (μ := μ.add σ.next ⟨w.heap.size, 0, s.size, cap - s.size, 1⟩) (b := σ.next) (n := s.size) (r := cap - s.size) (sz := 1) (B := w.heap.size) (q := 0) (by rw [Mu.add_at, Nat.mul_one]) (by omega)
        rw [show s.size + (cap - s.size) = cap by omega] at this
        exact this
    · rename_i he
      split at h
      · rename_i h46
        cases h
        generalize hrs : Conv.runesFrom s s.size 0 #[] = rs at h46
        have hrun := run_runes_of_string (P := P) w src dst e s hu hd he (by rw [hrs]; omega)
        rw [hrs] at hrun
        have hcap := grownCap_ge w rs.size 0 e
        generalize grownCap w rs.size 0 e = cap at hrun hcap
        have hflat : ∀ x ∈ rs.toList, flatV x = true := by rw [← hrs]; exact runesFrom_closed s _ _ _ (by simp)
        have hlen : rs.toList.length = rs.size := by simp
        rw [hrs, hlen] at k
        have st := Stp.grow (x := .row ⟨rs.toList, e, true⟩) (bi := ⟨w.heap.size, 0, rs.size, cap - rs.size, 1⟩) (w' := w.drew.alloc (.cells (rs ++ Array.replicate (cap - rs.size) (.int .i32 0)) e)) hs hG hn0 rfl (by simp) (by simp) rfl rfl rfl (fun B hB => RowKit.Below.heap_alloc w.drew _ _ hB) (fun μ' he' => by
          refine ⟨hlen, rs ++ Array.replicate (cap - rs.size) (.int .i32 0), (0, 0), e, (by show (w.heap.push _)[w.heap.size]? = _; simp), fun _ => ⟨rfl, .inl rfl, by simp, fun h => by cases h⟩, fun i y hy => ?_⟩
          have hi : i < rs.size := by rw [← hlen]; exact (List.getElem?_eq_some_iff.1 hy).1
          refine ⟨y, ?_, .flat y (hflat y (List.mem_of_getElem? hy))⟩
          simp only [Nat.zero_add]
          rw [Array.getElem?_append_left hi]
          simpa using hy)
        refine wp_of_value (v := .slice (some ⟨w.heap.size, 0, none⟩) rs.size cap) ?_ (k _ _ _ st ?_)
        · unfold execOp
          simp only [ho, Sem.run_bind, ev, hrun, Result.andThen_ok]
          rfl
        · have := mk_grown (μ := μ.add σ.next ⟨w.heap.size, 0, rs.size, cap - rs.size, 1⟩) (b := σ.next) (n := rs.size) (r := cap - rs.size) (sz := 1) (B := w.heap.size) (q := 0) (by rw [Mu.add_at, Nat.mul_one]) (by omega)
          rw [show rs.size + (cap - rs.size) = cap by omega] at this
          exact this
      · cases h
    · cases h
  · cases h
/-- Cells that are all numbers of one kind. -/
def numsF (k : IntKind) : List Value → Option (List Int)
  | [] => some []
  | .int k' n :: l => if k' = k then (match numsF k l with | some ns => some (n :: ns) | none => none) else none
  | _ :: _ => none
theorem numsF_eq {k : IntKind} : ∀ {l : List Value} {ns : List Int}, numsF k l = some ns → l = ns.map (Value.int k)
  | [], ns, h => by cases h; rfl
  | .int k' n :: l, ns, h => by
    simp only [numsF] at h
    split at h
    · rename_i hk
      split at h
      · rename_i ns' h'
        cases h
        rw [hk, numsF_eq h']
        rfl
      · cases h
    · cases h
  | .bool _ :: _, _, h | .float _ _ :: _, _, h | .complex _ _ _ :: _, _, h | .string _ :: _, _, h | .pointer _ :: _, _, h | .slice _ _ _ :: _, _, h | .map _ :: _, _, h | .chan _ :: _, _, h | .func _ _ _ :: _, _, h | .nilFunc :: _, _, h | .iface _ _ :: _, _, h | .nilIface :: _, _, h | .agg _ :: _, _, h | .tuple _ :: _, _, h => by simp [numsF] at h
/-- The string of a row's numbers. -/
noncomputable def backF (P : Program) (src dst : TypeId) (cs : List Value) : Option ByteArray :=
  match uT P src, uT P dst with
  | some (.slice e), some .string => (match uT P e with
    | some (.int .u8) => (numsF .u8 cs).map fun ns => ns.foldl (fun r n => r.push (UInt8.ofNat n.toNat)) ByteArray.empty
    | some (.int .i32) => (numsF .i32 cs).map runesBytes
    | _ => none)
  | _, _ => none
theorem lop_back {src dst : TypeId} {x : Operand} {b p n c : Nat} {sp : Option Nat} {cs : List Value} {s : ByteArray} (ho : o.op = .convert src dst x) (hx : ρ x = .slice (some ⟨b, p, sp⟩) n c) (hn : n ≠ 0) (hl : cs.length = n) (h : backF P src dst cs = some s) : LOp P o ρ b p cs (.string s) ∧ ∀ μ ρc, ORel μ ρ ρc o.op.operands → ∃ bi, μ b = some bi := by
  have inv : ∀ {μ : Mu} {ρc : Operand → Value}, ORel μ ρ ρc o.op.operands → ∃ bi c', μ b = some bi ∧ ρc x = .slice (some ⟨bi.blk, bi.sh + p, none⟩) n c' := fun {μ ρc} hor => by
    rw [ho] at hor
    have hv := hor x (by simp [Op.operands])
    rw [hx] at hv
    obtain ⟨bi, q, c', hb, e, _, hq⟩ := hv.slice_inv
    exact ⟨bi, c', hb, by rw [e, hq hn]⟩
  refine ⟨fun μ ρc w hor hc => ?_, fun μ ρc hor => let ⟨bi, _, hb, _⟩ := inv hor; ⟨bi, hb⟩⟩
  obtain ⟨bi, c', hb, e⟩ := inv hor
  obtain ⟨bi', cs', hb', hl', hcell, hrel⟩ := cells_of hc
  rw [hb] at hb'
  cases hb'
  refine ⟨.string s, .flat _ rfl, ?_⟩
  have hload := run_loadCells_list (P := P) w ⟨bi.blk, bi.sh + p, none⟩ cs' hcell
  rw [hl', hl] at hload
  have same : ∀ {k : IntKind} {ns : List Int}, numsF k cs = some ns → cs' = ns.map (Value.int k) := fun {k ns} hk => by
    have hcs := numsF_eq hk
    apply List.ext_getElem?
    intro i
    rcases Nat.lt_or_ge i cs.length with hi | hi
    · have hi' : i < cs'.length := by omega
      have := hrel i cs[i] cs'[i] (by simp [hi]) (by simp [hi'])
      have hf : cs'[i] = cs[i] := flatV_eq (by simp only [hcs, List.getElem_map]; rfl) this
      rw [List.getElem?_eq_getElem hi', hf, ← List.getElem?_eq_getElem hi, hcs]
    · rw [List.getElem?_eq_none (by omega), ← hcs, List.getElem?_eq_none hi]
  unfold backF at h
  try simp only [uT_eq] at h
  split at h
  · rename_i e' hu hd
    split at h
    · rename_i he
      simp only [Option.map_eq_some_iff] at h
      obtain ⟨ns, hns, rfl⟩ := h
      rw [same hns] at hload
      unfold execOp
      simp only [ho, Sem.run_bind, e, run_convert_bytes_string w src dst e' _ _ _ hu he hd, run_bytesToString w _ n c' ns hload, Result.andThen_ok]
      rfl
    · rename_i he
      simp only [Option.map_eq_some_iff] at h
      obtain ⟨ns, hns, rfl⟩ := h
      rw [same hns] at hload
      unfold execOp
      simp only [ho, Sem.run_bind, e, run_convert_runes_string w src dst e' _ _ _ hu he hd, run_runesToString w _ n c' ns hload, Result.andThen_ok]
      rfl
    · cases h
  · cases h
/-- An empty slice made a string. -/
theorem vop_back0 {src dst : TypeId} {x : Operand} {b p c : Nat} {sp : Option Nat} {s : ByteArray} (ho : o.op = .convert src dst x) (hx : ρ x = .slice (some ⟨b, p, sp⟩) 0 c) (h : backF P src dst [] = some s) : VOp P o ρ (.string s) := fun μ ρc hor => by
  rw [ho] at hor
  have hv := hor x (by simp [Op.operands])
  rw [hx] at hv
  obtain ⟨bi, q, c', hb, e, _, _⟩ := hv.slice_inv
  refine ⟨.string s, .flat _ rfl, fun w => ?_⟩
  have hload := run_loadCells_list (P := P) w ⟨bi.blk, q, none⟩ [] (by simp)
  simp only [List.length_nil] at hload
  unfold backF at h
  try simp only [uT_eq] at h
  split at h
  · rename_i e' hu hd
    split at h
    · rename_i he
      simp only [Option.map_eq_some_iff] at h
      obtain ⟨ns, hns, rfl⟩ := h
      cases hns
      unfold execOp
      simp only [ho, Sem.run_bind, e, run_convert_bytes_string w src dst e' _ _ _ hu he hd, run_bytesToString w _ 0 c' [] hload, Result.andThen_ok]
      rfl
    · rename_i he
      simp only [Option.map_eq_some_iff] at h
      obtain ⟨ns, hns, rfl⟩ := h
      cases hns
      unfold execOp
      simp only [ho, Sem.run_bind, e, run_convert_runes_string w src dst e' _ _ _ hu he hd, run_runesToString w _ 0 c' [] hload, Result.andThen_ok]
      rfl
    · cases h
  · cases h
/-- The first of the cells that a slice or a string holds. -/
theorem src_rel_le {σ : Mem} {μ : Mu} {w : World} (hs : Sim G μ σ w) {size n m : Nat} {x x' : Value} {xs : List Value} (hx : VRel μ x x') (h : srcF σ size x = some (n, xs)) (hm : m ≤ n) :
    ∃ xs' : List Value, xs'.length = m * size ∧ (Builtin.firstCells size m x').run P w = .ok xs'.toArray w ∧ ∀ (i : Nat) y y', (xs.take (m * size))[i]? = some y → xs'[i]? = some y' → VRel μ y y' := by
  have hl := srcF_len h
  unfold srcF at h
  split at h
  · rename_i s
    split at h
    · rename_i hsz
      cases h
      have e := flatV_eq rfl hx
      subst e hsz
      have hlen : ((s.data.toList.map byteV).take (m * 1)).length = m * 1 := by
        rw [List.length_take, List.length_map, Array.length_toList]
        have : s.data.size = s.size := rfl
        omega
      refine ⟨(s.data.toList.map byteV).take (m * 1), hlen, ?_, fun i y y' h1 h2 => ?_⟩
      · simp only [Builtin.firstCells, Sem.run_pure]
        congr 1
        apply Array.ext'
        simp [ByteArray.data_extract]
        rfl
      · rw [h1] at h2
        cases h2
        have h3 := List.mem_of_mem_take (List.mem_of_getElem? h1)
        rw [List.mem_map] at h3
        obtain ⟨u, _, rfl⟩ := h3
        exact .flat _ rfl
    · cases h
  · cases h
    have e := flatV_eq rfl hx
    subst e
    obtain rfl : m = 0 := by omega
    exact ⟨[], by simp, rfl, by simp⟩
  · rename_i b p sp n' c
    obtain ⟨bi, q, c', hb, e, _, hq⟩ := hx.slice_inv
    subst e
    split at h
    · rename_i hn
      subst hn
      cases h
      obtain rfl : m = 0 := by omega
      exact ⟨[], by simp, by simp [Builtin.firstCells, loadCells, loadCellsFrom], by simp⟩
    · rename_i hn
      split at h
      · rename_i r hr
        split at h
        · rename_i hfit
          cases h
          have hq := hq hn
          subst hq
          have hmul : m * size ≤ n * size := Nat.mul_le_mul_right _ hm
          have hc : CellsIn w μ b p (((r.cs.drop p).take (n * size)).take (m * size)) := CellsIn.of_row hs hb hr fun i v hv => by
            rw [List.getElem?_take] at hv
            split at hv
            · rw [List.getElem?_take] at hv
              split at hv
              · rw [List.getElem?_drop] at hv; exact hv
              · cases hv
            · cases hv
          obtain ⟨bi', cs', hb', hl', hcell, hrel⟩ := cells_of hc
          rw [hb] at hb'
          cases hb'
          have hlen : cs'.length = m * size := by rw [hl', List.length_take, hl]; omega
          refine ⟨cs', hlen, ?_, hrel⟩
          simp only [Builtin.firstCells]
          have := run_loadCells_list (P := P) w ⟨bi.blk, bi.sh + p, none⟩ cs' hcell
          rw [hlen] at this
          exact this
        · cases h
      · cases h
  · cases h
/-- copy. -/
noncomputable def copyF (G : Nat) (P : Program) (σ : Mem) (t : TypeId) (d x : Value) : Option (Value × MCmd) :=
  match uT P t, d with
  | some (.slice e), .slice (some ⟨b, p, _⟩) l _ => (match sizeT P e with
    | some size => (match srcF σ size x, σ.get b with
      | some (n, xs), some (.row r) => if Nat.min n l = 0 then some (.int .i64 0, .same) else
          if G ≤ b ∧ l ≠ 0 ∧ p + (xs.take (Nat.min n l * size)).length ≤ r.cs.length ∧ xs.all (·.oneCell') = true then some (.int .i64 (Nat.min n l), .put b (.row ⟨overL r.cs p (xs.take (Nat.min n l * size)), r.t, r.g⟩)) else none
      | _, _ => none)
    | none => none)
  | _, _ => none
theorem eop_copy {t u : TypeId} {c : Call} {d x : Operand} {σ : Mem} {cmd : MCmd} (ho : o.op = .call c) (hc : c.callee = .builtin .copy) (ha : c.args = #[d, x]) (ht : c.argTypes = #[t, u]) (h : copyF G P σ t (ρ d) (ρ x) = some (v, cmd)) : EOp G P o ρ σ v (cmd.app σ) := by
  have hops : ∀ y, y = d ∨ y = x → y ∈ (Op.call c).operands := fun y hy => by
    simp only [Op.operands, Call.operands, hc, ha]
    rcases hy with rfl | rfl <;> simp
  have runs : ∀ {a : Act} {w w' : World} {vc : Value}, (Builtin.copy_ #[t, u] o.type #[a.eval d, a.eval x]).run P w = .ok vc w' → (execOp a.eval o).run P w = .ok (.value vc) w' := fun {a w w' vc} hr => by
    unfold execOp
    simp only [ho, Sem.run_bind, resolve, hc, ha, ht, Result.andThen_ok, Sem.run_pure]
    simp [invoke, builtin, hr]
  unfold copyF at h
  try simp only [uT_eq] at h
  split at h
  · rename_i e b p sp l cp hu hd
    split at h
    · rename_i size hsz
      split at h
      · rename_i n xs r hsrc hr
        have hlx := srcF_len hsrc
        split at h
        · rename_i h0
          cases h
          refine ⟨Nat.le_refl _, fun μ w a hs hG _ hor K Q k rd => ?_⟩
          rw [ho] at hor
          have hv := hor d (hops d (.inl rfl))
          rw [hd] at hv
          obtain ⟨bi, q, c', hb, es, _, _⟩ := hv.slice_inv
          obtain ⟨g1, _⟩ := src_rel (P := P) hs (hor x (hops x (.inr rfl))) hsrc
          obtain ⟨xs', g2, g3, _⟩ := src_rel_le (P := P) hs (hor x (hops x (.inr rfl))) hsrc (m := Nat.min n l) (Nat.min_le_left _ _)
          rw [h0] at g2 g3
          have hx0 : xs' = [] := List.eq_nil_of_length_eq_zero (by simpa using g2)
          subst hx0
          refine wp_of_value (runs (w' := w) (vc := .int .i64 0) ?_) (k _ w μ (Stp.refl hs hG) (.flat _ rfl))
          simp [Builtin.copy_, run_underlying hu, sizeOf_run hsz, es, g1, h0, g3, storeCells, goInt]
        · rename_i h0
          split at h
          · rename_i hb
            obtain ⟨hb1, hb2, hb3, hb4⟩ := hb
            cases h
            refine ⟨Nat.le_refl _, fun μ w a hs hG _ hor K Q k rd => ?_⟩
            rw [ho] at hor
            have hv := hor d (hops d (.inl rfl))
            rw [hd] at hv
            obtain ⟨bi, q, c', hbi, es, _, hq⟩ := hv.slice_inv
            have hq := hq hb2
            subst hq
            obtain ⟨g1, _⟩ := src_rel (P := P) hs (hor x (hops x (.inr rfl))) hsrc
            obtain ⟨xs', g2, g3, g4⟩ := src_rel_le (P := P) hs (hor x (hops x (.inr rfl))) hsrc (m := Nat.min n l) (Nat.min_le_left _ _)
            have hlt : (xs.take (Nat.min n l * size)).length = Nat.min n l * size := by
              rw [List.length_take, hlx]
              exact Nat.min_eq_left (Nat.mul_le_mul_right _ (Nat.min_le_left _ _))
            obtain ⟨w', hrun, hst⟩ := Stp.write (P := P) hs hG hb1 hr hbi (p := p) (vs := xs.take (Nat.min n l * size)) (vs' := xs') hb3 (by rw [g2, hlt]) g4 (fun y hy => List.all_eq_true.1 hb4 y (List.mem_of_mem_take hy))
            refine wp_of_value (runs (w' := w') (vc := .int .i64 (Nat.min n l)) ?_) (k _ w' μ hst (.flat _ rfl))
            simp [Builtin.copy_, run_underlying hu, sizeOf_run hsz, es, g1, g3, hrun, goInt]
          · cases h
      · cases h
    · cases h
  · cases h
/-- clear, of a slice. -/
noncomputable def clearF (G : Nat) (P : Program) (σ : Mem) (t : TypeId) (x : Value) : Option MCmd :=
  match uT P t, x with
  | some (.slice _), .slice none _ _ => some .same
  | some (.slice e), .slice (some ⟨b, p, _⟩) n _ => if n = 0 then some .same else (match zeroT P e, σ.get b with
    | some z, some (.row r) => if G ≤ b ∧ closedV 2 z = true ∧ 0 < z.cells.size ∧ p + n * z.cells.size ≤ r.cs.length ∧ (Builtin.zeroCells z.cells n).toList.all (·.oneCell') = true then some (.put b (.row ⟨overL r.cs p (Builtin.zeroCells z.cells n).toList, r.t, r.g⟩)) else none
    | _, _ => none)
  | _, _ => none
theorem eop_clear {t : TypeId} {c : Call} {x : Operand} {σ : Mem} {cmd : MCmd} (ho : o.op = .call c) (hc : c.callee = .builtin .clear) (ha : c.args = #[x]) (ht : c.argTypes = #[t]) (h : clearF G P σ t (ρ x) = some cmd) : EOp G P o ρ σ undef (cmd.app σ) := by
  have hops : x ∈ (Op.call c).operands := by simp [Op.operands, Call.operands, hc, ha]
  have runs : ∀ {a : Act} {w w' : World} {vc : Value}, (Builtin.clear_ #[t] o.type #[a.eval x]).run P w = .ok vc w' → (execOp a.eval o).run P w = .ok (.value vc) w' := fun {a w w' vc} hr => by
    unfold execOp
    simp only [ho, Sem.run_bind, resolve, hc, ha, ht, Result.andThen_ok, Sem.run_pure]
    simp [invoke, builtin, hr]
  unfold clearF at h
  try simp only [uT_eq] at h
  split at h
  · rename_i e n cp hu hx
    cases h
    refine ⟨Nat.le_refl _, fun μ w a hs hG _ hor K Q k rd => ?_⟩
    rw [ho] at hor
    have hv := hor x hops
    rw [hx] at hv
    have hv := flatV_eq rfl hv
    refine wp_of_value (runs (w' := w) (vc := undef) ?_) (k _ w μ (Stp.refl hs hG) (VRel.undef μ))
    simp [Builtin.clear_, run_underlying hu, hv, undef]
  · rename_i e b p sp n cp hu hx
    split at h
    · rename_i h0
      cases h
      subst h0
      refine ⟨Nat.le_refl _, fun μ w a hs hG _ hor K Q k rd => ?_⟩
      rw [ho] at hor
      have hv := hor x hops
      rw [hx] at hv
      obtain ⟨bi, q, c', hb, es, _, _⟩ := hv.slice_inv
      refine wp_of_value (runs (w' := w) (vc := undef) ?_) (k _ w μ (Stp.refl hs hG) (VRel.undef μ))
      simp [Builtin.clear_, run_underlying hu, es, undef]
    · rename_i h0
      split at h
      · rename_i z r hz hr
        split at h
        · rename_i hb
          obtain ⟨hb1, hb2, hb3, hb4, hb5⟩ := hb
          cases h
          refine ⟨Nat.le_refl _, fun μ w a hs hG _ hor K Q k rd => ?_⟩
          rw [ho] at hor
          have hv := hor x hops
          rw [hx] at hv
          obtain ⟨bi, q, c', hbi, es, _, hq⟩ := hv.slice_inv
          have hq := hq h0
          subst hq
          have hrel := zeros_rel (μ := μ) (closedV_rel μ 2 z hb2).cells hb3 (n * z.cells.size)
          have hl : (Builtin.zeroCells z.cells n).toList.length = n * z.cells.size := by simp [Builtin.zeroCells]
          obtain ⟨w', hrun, hst⟩ := Stp.write (P := P) hs hG hb1 hr hbi (p := p) (vs := (Builtin.zeroCells z.cells n).toList) (vs' := (Builtin.zeroCells z.cells n).toList) (by rw [hl]; exact hb4) rfl (fun i y y' g1 g2 => hrel.2 i y y' (by rw [← Array.getElem?_toList]; exact g1) (by rw [← Array.getElem?_toList]; exact g2)) (fun y hy => List.all_eq_true.1 hb5 y hy)
          refine wp_of_value (runs (w' := w') (vc := undef) ?_) (k _ w' μ hst (VRel.undef μ))
          have hn : n ≠ 0 := h0
          cases n with
          | zero => exact absurd rfl hn
          | succ m => simp [Builtin.clear_, run_underlying hu, es, zero_run hz, hrun, undef]
        · cases h
      · cases h
  · cases h
/-- A slice of bytes made one of its own type. -/
noncomputable def selfF (G : Nat) (P : Program) (σ : Mem) (src dst : TypeId) (x : Value) : Option MCmd :=
  if src = dst then (match uT P src, x with
  | some (.slice e), .slice (some ⟨b, _, _⟩) _ _ => (match uT P e, σ.get b with
    | some (.int .u8), some (.row r) => if G ≤ b then some (.put b (.row r)) else none
    | _, _ => none)
  | _, _ => none) else none
theorem eop_self {src dst : TypeId} {x : Operand} {σ : Mem} {cmd : MCmd} (ho : o.op = .convert src dst x) (h : selfF G P σ src dst (ρ x) = some cmd) : EOp G P o ρ σ (ρ x) (cmd.app σ) := by
  unfold selfF at h
  try simp only [uT_eq] at h
  split at h
  · rename_i hsd
    subst hsd
    split at h
    · rename_i e b p sp n c hu hx
      split at h
      · rename_i r he hr
        split at h
        · rename_i hb
          cases h
          refine ⟨Nat.le_refl _, fun μ w a hs hG _ hor K Q k rd => ?_⟩
          rw [ho] at hor
          have hv := hor x (by simp [Op.operands])
          have hv0 := hv
          rw [hx] at hv
          obtain ⟨bi, q, c', hbi, es, _, hq⟩ := hv.slice_inv
          have hin := hs.blk b _ bi hr hbi
          obtain ⟨cc, fz, t', hh, hf', hc⟩ := hin.lie
          obtain ⟨rfl, hf, hz, hgr⟩ := hf' (hs.rw_ b _ bi hb hr hbi)
          have hlt := hin
          have hat : (w.freeze ⟨bi.blk, cc.size, none⟩ 1).heap[bi.blk]? = some (.cells cc r.t (if fz.1 == fz.2 then (cc.size, cc.size + 1) else (min fz.1 cc.size, max fz.2 (cc.size + 1)))) := by
            simp [World.freeze, Array.getElem?_modify, hh]
          refine wp_of_value (w' := w.freeze ⟨bi.blk, cc.size, none⟩ 1) (v := a.eval x) ?_ (k _ _ μ (Stp.turn hs hG hb hr hbi ?_ (by simp [World.freeze]) rfl rfl rfl fun B hB => by simp [World.freeze, Array.getElem?_modify, Ne.symm hB]) hv0)
          · unfold execOp
            have hsh : w.shape? bi.blk = some (r.t, cc.size) := by simp [World.shape?, hh]
            simp only [ho, Sem.run_bind, es]
            simp [convert, run_underlying hu, run_underlying he, markStringish, hsh, Result.andThen]
          · refine ⟨hin.len, cc, _, r.t, hat, fun _ => ⟨rfl, ?_, hz, hgr⟩, hc⟩
            rcases hf with rfl | h
            · exact .inr (by simp)
            · by_cases h2 : fz.1 = fz.2
              · exact .inr (by simp [h2])
              · refine .inr ?_
                rw [if_neg (by simpa using h2)]
                show cc.size ≤ min fz.1 cc.size
                omega
        · cases h
      · cases h
    · cases h
  · cases h
/-! ### Maps -/
/-- Where a key of a plain kind stands. -/
def findE (d : TypeDesc) (k : Value) : List (Value × Value) → Nat → Option (Option (Nat × Value))
  | [], _ => some none
  | (k', x) :: l, i => match Instr.sameNow d k k' with
    | some true => some (some (i, x))
    | some false => findE d k l (i + 1)
    | none => none
def plainD : TypeDesc → Bool | .int _ | .string | .bool => true | _ => false
theorem sameNow_flat {d : TypeDesc} {k k' : Value} {b : Bool} (h : Instr.sameNow d k k' = some b) : flatV k' = true := by
  unfold Instr.sameNow at h
  split at h <;> first | rfl | cases h
theorem findE_now {μ : Mu} {d : TypeDesc} {k : Value} : ∀ (es : List (Value × Value)) (cc : List MapEntry) (i : Nat) (r : Option (Nat × Value)), cc.length = es.length → (∀ (j : Nat) k' x, es[j]? = some (k', x) → ∃ e : MapEntry, cc[j]? = some e ∧ VRel μ k' e.key ∧ VRel μ x e.val) → findE d k es i = some r →
    ∃ r', Instr.findNow d k cc i = some r' ∧ (r = none → r' = none) ∧ ∀ j x, r = some (j, x) → ∃ x', r' = some (j, x') ∧ VRel μ x x'
  | [], [], i, r, _, _, h => by cases h; exact ⟨none, rfl, fun _ => rfl, by simp⟩
  | (k', x) :: es, e :: cc, i, r, hl, hr, h => by
    obtain ⟨e', he', h1, h2⟩ := hr 0 k' x rfl
    cases he'
    simp only [findE] at h
    split at h
    · rename_i hs
      cases h
      have := flatV_eq (sameNow_flat hs) h1
      refine ⟨some (i, e.val), by simp only [Instr.findNow, this, hs], by simp, fun j y hj => ?_⟩
      cases hj
      exact ⟨e.val, rfl, h2⟩
    · rename_i hs
      have := flatV_eq (sameNow_flat hs) h1
      obtain ⟨r', g1, g2, g3⟩ := findE_now es cc (i + 1) r (by simpa using hl) (fun j a b hj => hr (j + 1) a b hj) h
      exact ⟨r', by simp only [Instr.findNow, this, hs]; exact g1, g2, g3⟩
    · cases h
  | [], _ :: _, _, _, hl, _, _ => by simp at hl
  | _ :: _, [], _, _, hl, _, _ => by simp at hl
theorem checkKey_run {t : TypeId} {d : TypeDesc} (h : P.underlying t = some d) (hp : plainD d = true) (e : Bool) (k : Value) (w : World) (n : Nat) : (Instr.checkKey e (n + 1) t k).run P w = .ok () w := by
  simp only [Instr.checkKey, Sem.run_bind, run_underlying h, Result.andThen_ok]
  cases d <;> first | rfl | cases hp
def structD : TypeDesc → Bool | .struct _ => true | _ => false
/-- Are two keys the same? -/
def keyEq (P : Program) (kt : TypeId) (d : TypeDesc) (k k' : Value) : Option Bool :=
  cond (plainD d) (Instr.sameNow d k k') (cond (structD d) (cond (closedV 2 k') (pureOf P (Op.equal kt k k')) none) none)
def findX (P : Program) (kt : TypeId) (d : TypeDesc) (k : Value) : List (Value × Value) → Nat → Option (Option (Nat × Value))
  | [], _ => some none
  | (k', x) :: l, i => match keyEq P kt d k k' with
    | some true => some (some (i, x))
    | some false => findX P kt d k l (i + 1)
    | none => none
theorem findX_plain {kt : TypeId} {d : TypeDesc} (hd : plainD d = true) {k : Value} : ∀ (es : List (Value × Value)) (i : Nat), findX P kt d k es i = findE d k es i
  | [], _ => rfl
  | (k', x) :: l, i => by
    simp only [findX, findE, keyEq, hd, cond_true]
    cases Instr.sameNow d k k' with
    | none => rfl
    | some b => cases b <;> simp [findX_plain hd l]
theorem asking_run {μ : Mu} {kt : TypeId} {d : TypeDesc} (hp : plainD d = false) {k : Value} (w : World) : ∀ (es : List (Value × Value)) (cc : List MapEntry) (i : Nat) (r : Option (Nat × Value)), cc.length = es.length → (∀ (j : Nat) k' x, es[j]? = some (k', x) → ∃ e : MapEntry, cc[j]? = some e ∧ VRel μ k' e.key ∧ VRel μ x e.val) → findX P kt d k es i = some r →
    ∃ r', (Instr.findAsking kt k cc i).run P w = .ok r' w ∧ (r = none → r' = none) ∧ ∀ j x, r = some (j, x) → ∃ x', r' = some (j, x') ∧ VRel μ x x'
  | [], [], i, r, _, _, h => by cases h; exact ⟨none, rfl, fun _ => rfl, by simp⟩
  | (k', x) :: es, e :: cc, i, r, hl, hr, h => by
    obtain ⟨e', he', h1, h2⟩ := hr 0 k' x rfl
    cases he'
    simp only [findX, keyEq, hp, cond_false] at h
    cases hs : structD d with
    | false => rw [hs] at h; cases h
    | true =>
      cases hc : closedV 2 k' with
      | false => rw [hs, hc] at h; cases h
      | true =>
        rw [hs, hc] at h
        simp only [cond_true] at h
        have ek := closedV_eq 2 _ _ hc h1
        split at h
        · rename_i hq
          cases h
          refine ⟨some (i, e.val), ?_, by simp, fun j y hj => ?_⟩
          · simp only [Instr.findAsking, Sem.run_bind, ek, pureOf_run _ _ hq w, Result.andThen_ok, if_true, Sem.run_pure]
          · cases hj; exact ⟨e.val, rfl, h2⟩
        · rename_i hq
          obtain ⟨r', g1, g2, g3⟩ := asking_run hp w es cc (i + 1) r (by simpa using hl) (fun j a b hj => hr (j + 1) a b hj) h
          exact ⟨r', by simp only [Instr.findAsking, Sem.run_bind, ek, pureOf_run _ _ hq w, Result.andThen_ok, Bool.false_eq_true, if_false]; exact g1, g2, g3⟩
        · cases h
  | [], _ :: _, _, _, hl, _, _ => by simp at hl
  | _ :: _, [], _, _, hl, _, _ => by simp at hl
theorem findKey_run {μ : Mu} {kt : TypeId} {d : TypeDesc} (hu : P.underlying kt = some d) {k : Value} (w : World) {es : List (Value × Value)} {cc : List MapEntry} {r : Option (Nat × Value)} (hl : cc.length = es.length) (hr : ∀ (j : Nat) k' x, es[j]? = some (k', x) → ∃ e : MapEntry, cc[j]? = some e ∧ VRel μ k' e.key ∧ VRel μ x e.val) (h : findX P kt d k es 0 = some r) :
    ∃ r', (Instr.findKey kt k cc).run P w = .ok r' w ∧ (r = none → r' = none) ∧ ∀ j x, r = some (j, x) → ∃ x', r' = some (j, x') ∧ VRel μ x x' := by
  unfold Instr.findKey
  simp only [Sem.run_bind, run_underlying hu, Result.andThen_ok]
  cases hp : plainD d with
  | true =>
    rw [findX_plain hp] at h
    obtain ⟨r', g1, g2, g3⟩ := findE_now es cc 0 r hl hr h
    exact ⟨r', by rw [g1]; rfl, g2, g3⟩
  | false =>
    obtain ⟨r', g1, g2, g3⟩ := asking_run (P := P) (kt := kt) hp w es cc 0 r hl hr h
    cases cc with
    | nil =>
      refine ⟨r', ?_, g2, g3⟩
      simp only [Instr.findNow]
      exact g1
    | cons e cc =>
      have hs : structD d = true := by
        cases es with
        | nil => simp at hl
        | cons x es =>
          simp only [findX, keyEq, hp, cond_false] at h
          cases hs : structD d with
          | true => rfl
          | false => rw [hs] at h; cases h
      have hn : Instr.findNow d k (e :: cc) 0 = none := by
        have hs2 : Instr.sameNow d k e.key = none := by cases d <;> first | (cases hs; done) | rfl | (unfold Instr.sameNow; split <;> first | rfl | simp_all)
        unfold Instr.findNow
        rw [hs2]
      exact ⟨r', by rw [hn]; exact g1, g2, g3⟩
/-- Is a key one that may be hashed? -/
def keyOk (P : Program) (kt : TypeId) (d : TypeDesc) (k : Value) : Bool := cond (plainD d) true (match pureOf P (Instr.checkKey true 10000 kt k), pureOf P (Instr.checkKey false 10000 kt k) with | some _, some _ => true | _, _ => false)
theorem keyOk_run {kt : TypeId} {d : TypeDesc} {k : Value} (hd : P.underlying kt = some d) (h : keyOk P kt d k = true) (e : Bool) (w : World) : (Instr.checkKey e 10000 kt k).run P w = .ok () w := by
  unfold keyOk at h
  cases hp : plainD d with
  | true => exact checkKey_run hd hp e _ w 9999
  | false =>
    rw [hp] at h
    simp only [cond_false] at h
    split at h
    · rename_i h1 h2
      cases e
      · exact pureOf_run _ _ h2 w
      · exact pureOf_run _ _ h1 w
    · cases h
/-- A lookup. -/
noncomputable def lookupF (P : Program) (σ : Mem) (t : TypeId) (m k : Value) (ok : Bool) : Option Value :=
  match uT P t, m with
  | some (.map kt et), .map (some b) => (match σ.get b, uT P kt, zeroT P et with
    | some (.ents es _), some d, some z => if keyOk P kt d k = true ∧ closedV 2 k = true ∧ closedV 2 z = true then (match findX P kt d k es 0 with
      | some (some (_, x)) => some (if ok then .tuple #[x, .bool true] else x)
      | some none => some (if ok then .tuple #[z, .bool false] else z)
      | none => none) else none
    | _, _, _ => none)
  | _, _ => none
theorem VRel.map_inv {μ : Mu} {b : Nat} : ∀ {v' : Value}, VRel μ (.map (some b)) v' → ∃ bi, μ b = some bi ∧ v' = .map (some bi.blk)
  | _, .flat _ h => by simp [flatV] at h
  | _, .map _ bi h => ⟨bi, h, rfl⟩
theorem EntsIn.rel {μ : Mu} {es : List (Value × Value)} {cc : Array MapEntry} (h : EntsIn μ es cc) : cc.toList.length = es.length ∧ ∀ (j : Nat) k' x, es[j]? = some (k', x) → ∃ e : MapEntry, cc.toList[j]? = some e ∧ VRel μ k' e.key ∧ VRel μ x e.val :=
  ⟨by simpa using h.1, fun j k' x hj => let ⟨e, h1, h2, h3, _⟩ := h.2 j k' x hj; ⟨e, by simpa using h1, h2, h3⟩⟩
theorem eop_lookup {t : TypeId} {m k : Operand} {ok : Bool} {σ : Mem} (ho : o.op = .lookup t m k ok) (h : lookupF P σ t (ρ m) (ρ k) ok = some v) : EOp G P o ρ σ v σ := by
  refine ⟨Nat.le_refl _, fun μ w a hs hG _ hor K Q kk rd => ?_⟩
  rw [ho] at hor
  have hm := hor m (by simp [Op.operands])
  have hk := hor k (by simp [Op.operands])
  unfold lookupF at h
  try simp only [uT_eq] at h
  split at h
  · rename_i kt et b hu hmv
    rw [hmv] at hm
    obtain ⟨bi, hb, em⟩ := hm.map_inv
    split at h
    · rename_i es cl d z hes hd hz
      split at h
      · rename_i hc
        obtain ⟨hp, hf, hcl⟩ := hc
        have ek := closedV_eq 2 _ _ hf hk
        obtain ⟨cc, hin, hents⟩ := hs.blk b _ bi hes hb
        have hck : ∀ (e : Bool) (w : World), (Instr.checkKey e 10000 kt (ρ k)).run P w = .ok () w := fun e w => keyOk_run hd hp e w
        split at h
        · rename_i i x hfe
          cases h
          obtain ⟨r', g1, _, g3⟩ := findKey_run hd w hents.rel.1 hents.rel.2 hfe
          obtain ⟨x', rfl, hx⟩ := g3 i x rfl
          refine wp_of_value (v := if ok then .tuple #[x', .bool true] else x') (w' := w) ?_ (kk _ w μ (Stp.refl hs hG) ?_)
          · unfold execOp
            simp only [ho, Instr.lookup, Sem.run_bind, run_underlying hu, Result.andThen_ok, em, ek, getObj_run hin (by simp), Sem.run_pure, hck, g1]
            try simp
          · cases ok
            · exact hx
            · exact .two hx (.flat _ rfl)
        · rename_i hfe
          cases h
          obtain ⟨r', g1, g2, _⟩ := findKey_run hd w hents.rel.1 hents.rel.2 hfe
          have g2 := g2 rfl
          subst g2
          refine wp_of_value (v := if ok then .tuple #[z, .bool false] else z) (w' := w) ?_ (kk _ w μ (Stp.refl hs hG) ?_)
          · unfold execOp
            simp only [ho, Instr.lookup, Sem.run_bind, run_underlying hu, Result.andThen_ok, em, ek, getObj_run hin (by simp), Sem.run_pure, hck, g1]
            simp [zero_run hz]
          · have := closedV_rel μ 2 z hcl
            cases ok
            · exact this
            · exact .two this (.flat _ rfl)
        · cases h
      · cases h
    · cases h
  · cases h
/-- A map's entry is set. -/
noncomputable def updateF (G : Nat) (P : Program) (σ : Mem) (t : TypeId) (m k x : Value) : Option MCmd :=
  match uT P t, m with
  | some (.map kt _), .map (some b) => (match σ.get b, uT P kt with
    | some (.ents es cl), some d => if G ≤ b ∧ keyOk P kt d k = true ∧ closedV 2 k = true ∧ cl = es.length then (match findX P kt d k es 0 with
      | some (some (i, _)) => (match es[i]? with
        | some (k', _) => if closedV 2 k' = true ∧ Instr.sameBits 10000 k' k = true then some (.put b (.ents (es.set i (k, x)) cl)) else none
        | none => none)
      | some none => some (.put b (.ents (es ++ [(k, x)]) (cl + 1)))
      | none => none) else none
    | _, _ => none)
  | _, _ => none
theorem eop_update {t : TypeId} {m k x : Operand} {σ : Mem} {cmd : MCmd} (ho : o.op = .mapUpdate t m k x ∨ o.op = .insert t m k x) (h : updateF G P σ t (ρ m) (ρ k) (ρ x) = some cmd) : EOp G P o ρ σ undef (cmd.app σ) := by
  have hn : (cmd.app σ).next = σ.next := by
    unfold updateF at h
    try simp only [uT_eq] at h
    split at h
    · split at h
      · split at h
        · split at h
          · split at h
            · split at h <;> cases h
              rfl
            · cases h
          · cases h; rfl
          · cases h
        · cases h
      · cases h
    · cases h
  refine ⟨by omega, fun μ w a hs hG _ hor K Q kk rd => ?_⟩
  have hmem : ∀ y, y = m ∨ y = k ∨ y = x → y ∈ o.op.operands := fun y hy => by rcases ho with h | h <;> rw [h] <;> rcases hy with rfl | rfl | rfl <;> simp [Op.operands]
  have hm := hor m (hmem m (.inl rfl))
  have hk := hor k (hmem k (.inr (.inl rfl)))
  have hx := hor x (hmem x (.inr (.inr rfl)))
  have runs : ∀ {w' : World}, (Instr.mapUpdate t (a.eval m) (a.eval k) (a.eval x)).run P w = .ok () w' → (execOp a.eval o).run P w = .ok .skip w' := fun {w'} hr => by
    unfold execOp
    rcases ho with h | h <;> simp [h, hr]
  unfold updateF at h
  try simp only [uT_eq] at h
  split at h
  · rename_i kt et b hu hmv
    rw [hmv] at hm
    obtain ⟨bi, hb, em⟩ := hm.map_inv
    split at h
    · rename_i es cl d hes hd
      split at h
      · rename_i hc
        obtain ⟨hGb, hp, hf, hcl⟩ := hc
        have ek := closedV_eq 2 _ _ hf hk
        obtain ⟨cc, hin, hents⟩ := hs.blk b _ bi hes hb
        have hck : ∀ (e : Bool) (w : World), (Instr.checkKey e 10000 kt (ρ k)).run P w = .ok () w := fun e w => keyOk_run hd hp e w
        split at h
        · rename_i i y hfe
          obtain ⟨r', g1, _, g3⟩ := findKey_run hd w hents.rel.1 hents.rel.2 hfe
          obtain ⟨y', rfl, hy⟩ := g3 i y rfl
          split at h
          case h_2 => cases h
          rename_i k' y2 hk'
          split at h
          case isFalse => cases h
          rename_i hcs
          obtain ⟨hck', hsb⟩ := hcs
          cases h
          obtain ⟨e, he, h1, h2, h3⟩ := hents.2 i k' y2 hk'
          have ekey := closedV_eq 2 _ _ hck' h1
          have st := Stp.setObj (o := .map (cc.modify i fun e => { e with key := ρ k, val := a.eval x }) cl) (y := .ents (es.set i (ρ k, ρ x)) cl) hs hG hGb hes hb (fun w' hw => ⟨_, hw, by simp [hents.1], fun j k2 x2 hj => by
            have hi : i < es.length := (List.getElem?_eq_some_iff.1 hk').1
            by_cases hij : i = j
            · subst hij
              rw [List.getElem?_set_self hi] at hj
              cases hj
              refine ⟨{ e with key := ρ k, val := a.eval x }, by simp [Array.getElem?_modify, he], closedV_rel μ 2 _ hf, hx, h3⟩
            · rw [List.getElem?_set_ne hij] at hj
              obtain ⟨e2, g5, g6, g7, g8⟩ := hents.2 j k2 x2 hj
              exact ⟨e2, by simp [Array.getElem?_modify, hij, g5], g6, g7, g8⟩⟩)
          refine wp_of_skip (runs (w' := _) ?_) (kk undef _ μ st (VRel.undef μ))
          have hkey : ((cc[i]?).map (·.key)).getD (ρ k) = k' := by rw [he]; simp [ekey]
          simp only [Instr.mapUpdate, Sem.run_bind, run_underlying hu, Result.andThen_ok, em, ek, getObj_run hin (by simp), hck, g1, Sem.run_pure, hkey, Instr.keyThatStays, hsb, if_true, setObj_run hin (by simp)]
        · rename_i hfe
          cases h
          obtain ⟨r', g1, g2, _⟩ := findKey_run hd w hents.rel.1 hents.rel.2 hfe
          have g2 := g2 rfl
          subst g2
          have st := Stp.setObj (o := .map (cc.push { key := ρ k, val := a.eval x, born := cl }) (cl + 1)) (y := .ents (es ++ [(ρ k, ρ x)]) (cl + 1)) hs hG hGb hes hb (fun w' hw => ⟨_, hw, by simp [hents.1], fun j k2 x2 hj => by
            rcases Nat.lt_or_ge j es.length with hjl | hjl
            · rw [List.getElem?_append_left hjl] at hj
              obtain ⟨e2, g5, g6, g7, g8⟩ := hents.2 j k2 x2 hj
              refine ⟨e2, ?_, g6, g7, g8⟩
              rw [Array.getElem?_push, if_neg (by have := hents.1; omega)]
              exact g5
            · rw [List.getElem?_append_right hjl] at hj
              have hj0 : j = es.length := by
                have := (List.getElem?_eq_some_iff.1 hj).1
                simp at this
                omega
              subst hj0
              simp at hj
              obtain ⟨rfl, rfl⟩ := hj
              refine ⟨{ key := ρ k, val := a.eval x, born := cl }, ?_, closedV_rel μ 2 _ hf, hx, hcl⟩
              rw [Array.getElem?_push, if_pos hents.1.symm]⟩)
          refine wp_of_skip (runs (w' := _) ?_) (kk undef _ μ st (VRel.undef μ))
          simp only [Instr.mapUpdate, Sem.run_bind, run_underlying hu, Result.andThen_ok, em, ek, getObj_run hin (by simp), hck, g1, setObj_run hin (by simp)]
        · cases h
      · cases h
    · cases h
  · cases h
end Go.Proofs.YtmlmnbcnfalaaaaDoor
