/-
  Builders of strings, pointers held against each other, methods called on interface values: what such an operation does in the second memory. Over any program. Conditions: none.
-/
import Derived.Test.YtmlmnbcnfalaaaaDoorSs
import Derived.Laws.Externs
import Derived.Lib.Builder
import Derived.Lib.UnsafeStr
namespace Go.Proofs.YtmlmnbcnfalaaaaDoor
variable {P : Program} {G : Nat} {o : Oper} {ρ : Operand → Value} {v : Value}

noncomputable def hasF (f : Nat) (l : List Nat) : Bool := List.rec (motive := fun _ => Bool) false (fun a _ ih => cond (Nat.beq f a) true ih) l
/-- A function that hands its argument back. -/
def SameFn (P : Program) (f : FuncId) : Prop := ∃ fn, P.funcs[f]? = some fn ∧ (fn.name == "runtime.NumGoroutine") = false ∧ fn.body.isNone = true ∧ Extern.findNext fn = none ∧ Extern.find fn = some Extern.AbiNoEscape.same
theorem vop_same {c : Call} {x y : Operand} {f : FuncId} (ho : o.op = .call c) (hc : c.callee = .value x) (hx : ρ x = .func (.func f) #[] #[]) (ha : c.args = #[y]) (h : SameFn P f) : VOp P o ρ (ρ y) := fun μ ρc hor => by
  rw [ho] at hor
  have h1 := hor x (by simp [Op.operands, Call.operands, hc])
  have h2 := hor y (by simp [Op.operands, Call.operands, hc, ha])
  rw [hx] at h1
  obtain ⟨fa', ca', e, hfa, hca⟩ := h1.func_inv
  have e1 : fa' = #[] := Array.eq_empty_of_size_eq_zero hfa.1.symm
  have e2 : ca' = #[] := Array.eq_empty_of_size_eq_zero hca.1.symm
  subst e1 e2
  obtain ⟨fn, g1, g2, g3, g4, g5⟩ := h
  refine ⟨ρc y, h2, fun w => ?_⟩
  unfold execOp
  simp only [ho, Sem.run_bind, resolve_value hc e, Result.andThen_ok, invoke, ha]
  rw [run_callFunc_extern g1 g2 g3 g4 g5]
  have e3 : (#[] ++ Array.map ρc #[y] ++ #[]) = #[ρc y] := by simp
  rw [e3, Lib.run_noEscape]
  rfl
theorem VRel.ptr_shape {σ : Mem} {μ : Mu} {w : World} (hs : Sim G μ σ w) {b p : Nat} {bi : BI} {r : Row} (hm : μ b = some bi) (hr : σ.get b = some (.row r)) (hp : p < r.cs.length) : ∃ e cells, w.shape? bi.blk = some (e, cells) ∧ bi.sh + p < cells ∧ (G ≤ b → e = r.t ∧ (r.g = false → bi.sh = 0 ∧ cells = r.cs.length)) := by
  have hin := hs.blk b _ bi hr hm
  obtain ⟨cc, fz, t', hh, hf, hv⟩ := hin.lie
  have hlen := hin.len
  obtain ⟨v', h1, _⟩ := hv p r.cs[p] (by simp [hp])
  refine ⟨t', cc.size, by simp [World.shape?, hh], (Array.getElem?_eq_some_iff.1 h1).1, fun hb => ?_⟩
  obtain ⟨h2, _, h3, h4⟩ := hf (hs.rw_ b _ bi hb hr hm)
  refine ⟨h2, fun hg => ?_⟩
  obtain ⟨h5, h6⟩ := h4 hg
  refine ⟨h5, ?_⟩
  rw [h5, h6] at h3
  omega
/-- A pointer made an unsafe one, and back. -/
noncomputable def ptrF (G : Nat) (P : Program) (σ : Mem) (src dst : TypeId) (x : Value) : Bool :=
  match x with
  | .pointer (some ⟨b, p, none⟩) => (match uT P src, uT P dst, σ.get b with
    | some (.pointer t), some .unsafePointer, some (.row r) => (match iT P t with | some j => Nat.blt 0 j.size && Nat.blt p r.cs.length | none => false)
    | some .unsafePointer, some (.pointer u), some (.row r) => (match iT P u with | some _ => Nat.ble G b && !r.g && Nat.blt p r.cs.length && liesAt P P.depth r.t (r.cs.length / P.cellsOf r.t) p u 1 | none => false)
    | _, _, _ => false)
  | _ => false
theorem VRel.ptr_of {μ : Mu} {b p : Nat} {v' : Value} (h : VRel μ (.pointer (some ⟨b, p, none⟩)) v') : ∃ bi, μ b = some bi ∧ v' = .pointer (some ⟨bi.blk, bi.sh + p, none⟩) := by
  obtain ⟨bi, h1, h2⟩ := h.ptr_inv
  exact ⟨bi, h1, h2⟩
theorem eop_ptr {src dst : TypeId} {x : Operand} {σ : Mem} (ho : o.op = .convert src dst x) (h : ptrF G P σ src dst (ρ x) = true) : EOp G P o ρ σ (ρ x) σ := by
  refine ⟨Nat.le_refl _, fun μ w a hs hG _ hor K Q k rd => ?_⟩
  rw [ho] at hor
  have hv := hor x (by simp [Op.operands])
  unfold ptrF at h
  try simp only [uT_eq, iT_eq] at h
  split at h
  · rename_i b p hx
    have hv0 := hv
    rw [hx] at hv
    obtain ⟨bi, hm, e⟩ := hv.ptr_of
    refine wp_of_value (w' := w) (v := a.eval x) ?_ (k _ w μ (Stp.refl hs hG) hv0)
    unfold execOp
    simp only [ho, Sem.run_bind, e]
    split at h
    · rename_i t r hu hd hr
      split at h
      · rename_i j hj
        simp only [Bool.and_eq_true, Nat.blt_eq] at h
        obtain ⟨e', cells, g1, g2, _⟩ := VRel.ptr_shape hs hm hr h.2
        rw [Lib.run_to_unsafe _ ⟨bi.blk, bi.sh + p, none⟩ hu hd hj (by omega) g1 g2]
        rfl
      · cases h
    · rename_i u r hu hd hr
      split at h
      · rename_i j hj
        simp only [Bool.and_eq_true, Nat.blt_eq, Nat.ble_eq, Bool.not_eq_true'] at h
        obtain ⟨⟨⟨h1, h2⟩, h3⟩, h4⟩ := h
        obtain ⟨e', cells, g1, g2, g3⟩ := VRel.ptr_shape hs hm hr h3
        obtain ⟨rfl, g4⟩ := g3 h1
        obtain ⟨g5, rfl⟩ := g4 h2
        rw [Lib.run_from_unsafe _ ⟨bi.blk, bi.sh + p, none⟩ hu hd hj g1 (by simpa [g5] using h4)]
        rfl
      · cases h
    · cases h
  · cases h
theorem equalIn_ptr {t e : TypeId} {s : Nat} (hu : P.underlying t = some (.pointer e)) (hs : sizeT P e = some (s + 1)) (B p q d : Nat) (w : World) : (Op.equalIn (d + 1) t (.pointer (some ⟨B, p, none⟩)) (.pointer (some ⟨B, q, none⟩))).run P w = .ok (Nat.beq p q) w := by
  have hb' : (({ block := B, off := p, spot := none } : Addr) == { block := B, off := q, spot := none }) = Nat.beq p q := by
    rw [Bool.eq_iff_iff]; simp
  simp only [Op.equalIn, Sem.run_bind, run_underlying hu, Result.andThen_ok, sizeOf_run hs]
  simp [sameAddr, hb']
/-- Two pointers into one row. -/
noncomputable def ptrEq (P : Program) (op : BinOp) (t : TypeId) (x y : Value) : Option Value :=
  match x, y, uT P t with
  | .pointer (some ⟨b, p, none⟩), .pointer (some ⟨c, q, none⟩), some (.pointer e) => cond (Nat.beq b c) (match sizeT P e with
    | some (_ + 1) => (match op with | .eql => some (.bool (Nat.beq p q)) | .neq => some (.bool (!Nat.beq p q)) | _ => none)
    | _ => none) none
  | _, _, _ => none
theorem vop_ptrEq {op : BinOp} {t t' : TypeId} {x y : Operand} (ho : o.op = .binOp op t x y t') (h : ptrEq P op t (ρ x) (ρ y) = some v) : VOp P o ρ v := fun μ ρc hor => by
  rw [ho] at hor
  have h1 := hor x (by simp [Op.operands])
  have h2 := hor y (by simp [Op.operands])
  unfold ptrEq at h
  try simp only [uT_eq] at h
  split at h
  · rename_i b p c q e hx hy hu
    rw [hx] at h1
    rw [hy] at h2
    obtain ⟨bi, hm, e1⟩ := h1.ptr_of
    obtain ⟨bi', hm', e2⟩ := h2.ptr_of
    cases hbc : Nat.beq b c with
    | false => rw [hbc] at h; cases h
    | true =>
      rw [hbc] at h
      simp only [cond_true] at h
      obtain rfl := Nat.eq_of_beq_eq_true hbc
      rw [hm] at hm'
      cases hm'
      split at h
      · rename_i s hs
        have hbb : Nat.beq (bi.sh + p) (bi.sh + q) = Nat.beq p q := by
          rw [Bool.eq_iff_iff]; simp
        have hsame : ∀ w, (Op.equal t (.pointer (some ⟨bi.blk, bi.sh + p, none⟩)) (.pointer (some ⟨bi.blk, bi.sh + q, none⟩))).run P w = .ok (Nat.beq p q) w := fun w => by
          rw [← hbb]
          exact equalIn_ptr hu hs bi.blk (bi.sh + p) (bi.sh + q) 9999 w
        split at h
        · cases h
          refine ⟨.bool (Nat.beq p q), .flat _ rfl, fun w => ?_⟩
          unfold execOp
          simp only [ho, e1, e2]
          simp [eqGuard, binOp, hsame]
        · cases h
          refine ⟨.bool (!Nat.beq p q), .flat _ rfl, fun w => ?_⟩
          unfold execOp
          simp only [ho, e1, e2]
          simp [eqGuard, binOp, hsame]
        · cases h
      · cases h
  · cases h
/-- unsafe.SliceData. -/
def dataF : Value → Option Value
  | .slice none _ _ => some (.pointer none)
  | .slice (some ⟨b, p, _⟩) n c => cond (Nat.blt 0 n && Nat.blt 0 c) (some (.pointer (some ⟨b, p, none⟩))) none
  | _ => none
theorem vop_data {c : Call} {x : Operand} (ho : o.op = .call c) (hc : c.callee = .builtin .unsafeSliceData) (ha : c.args = #[x]) (h : dataF (ρ x) = some v) : VOp P o ρ v := fun μ ρc hor => by
  rw [ho] at hor
  have hv := hor x (by simp [Op.operands, Call.operands, hc, ha])
  have runs : ∀ {w w' : World} {vc : Value}, (Builtin.unsafeSliceData_ c.argTypes o.type #[ρc x]).run P w = .ok vc w' → (execOp ρc o).run P w = .ok (.value vc) w' := fun {w w' vc} hr => by
    unfold execOp
    simp only [ho, Sem.run_bind, resolve, hc, ha, Result.andThen_ok, Sem.run_pure]
    simp [invoke, builtin, hr]
  unfold dataF at h
  split at h
  · rename_i n cp hx
    cases h
    rw [hx] at hv
    have hv := flatV_eq rfl hv
    exact ⟨_, .flat _ rfl, fun w => runs (by rw [hv]; rfl)⟩
  · rename_i b p sp n cp hx
    cases hk : (Nat.blt 0 n && Nat.blt 0 cp) with
    | false => rw [hk] at h; cases h
    | true =>
      rw [hk] at h
      cases h
      simp only [Bool.and_eq_true, Nat.blt_eq] at hk
      rw [hx] at hv
      obtain ⟨bi, q, c', hb, es, hcc, hq⟩ := hv.slice_inv
      have hq := hq (by omega)
      subst hq
      exact ⟨_, .ptr b p bi hb, fun w => runs (by rw [es]; exact Lib.run_unsafeSliceData_row w _ _ _ _ _ (by omega))⟩
  · cases h
/-- A block is given up, whatever becomes of it. -/
theorem Stp.turnKill {σ : Mem} {μ : Mu} {w w' : World} (hs : Sim G μ σ w) (hG : G ≤ σ.next) {b : Nat} {x : Blk2} {bi : BI} (hb : G ≤ b) (hx : σ.get b = some x) (hm : μ b = some bi)
    (hsz : w'.heap.size = w.heap.size) (hos : w'.os = w.os) (ht : w'.tape = w.tape) (ho : w'.output = w.output) (hk : ∀ B, B ≠ bi.blk → w'.heap[B]? = w.heap[B]?) : Stp G σ μ w (σ.kill b) μ w' := by
  have key : ∀ c z, (σ.kill b).get c = some z → c ≠ b ∧ σ.get c = some z := fun c z hz => by
    rw [Mem.kill_get] at hz
    split at hz
    · cases hz
    · rename_i hc; exact ⟨hc, hz⟩
  refine ⟨Nat.le_refl _, fun c h1 h2 => absurd h1 (by have : c < σ.next := h2; omega), fun _ _ => rfl, ⟨hs.glob, fun c z ci hz hc => ?_, fun c c' z z' ci ci' hz hz' hc hc' => hs.inj c c' z z' ci ci' (key _ _ hz).2 (key _ _ hz').2 hc hc', fun c z ci hGc hz hc => hs.rw_ c z ci hGc (key _ _ hz).2 hc⟩, by omega, hos, ht, ho, fun B hB h => hk B (Ne.symm (h b x bi hb hx hm)),
    fun c z ci hc hz _ => absurd (Mem.lt (key c z hz).2) (by omega), fun c z _ hz => ⟨z, (key c z hz).2⟩, hG⟩
  obtain ⟨h1, h2⟩ := key c z hz
  exact (hs.blk c z ci h2 hc).keep (hk _ fun e => h1 (hs.inj c b z x ci bi h2 hx hc hm e)) (Ext.refl _)
/-- Cells that are all bytes. -/
def bytesF : List Value → Option (List UInt8)
  | [] => some []
  | .int .u8 n :: l => if 0 ≤ n ∧ n < 256 then (match bytesF l with | some ns => some (UInt8.ofNat n.toNat :: ns) | none => none) else none
  | _ :: _ => none
theorem bytesF_eq : ∀ {l : List Value} {ns : List UInt8}, bytesF l = some ns → l = ns.map fun b => Value.int .u8 b.toNat
  | [], ns, h => by cases h; rfl
  | x :: l, ns, h => by
    unfold bytesF at h
    split at h
    · rename_i h'; cases h'
    · rename_i n l' he
      cases he
      split at h
      · rename_i hn
        split at h
        · rename_i ns' h'
          cases h
          rw [List.map_cons, ← bytesF_eq h']
          congr 2
          simp [UInt8.toNat_ofNat']
          omega
        · cases h
      · cases h
    · cases h
/-- unsafe.String. -/
noncomputable def ustrF (G : Nat) (P : Program) (σ : Mem) (pt : TypeId) (x y : Value) : Option (ByteArray × Option Nat) :=
  match x, y with
  | .pointer none, .int .i64 (.ofNat 0) => some (.empty, none)
  | .pointer (some ⟨b, p, none⟩), .int .i64 (.ofNat (n + 1)) => (match uT P pt, σ.get b with
    | some (.pointer e), some (.row r) => cond (Nat.ble G b && Nat.beq (P.cellsOf e) 1 && Nat.beq r.t e && Nat.ble (p + (n + 1)) r.cs.length && Nat.ble (n + 1) 9223372036854775807) (match bytesF ((r.cs.drop p).take (n + 1)) with | some l => some (⟨l.toArray⟩, some b) | none => none) none
    | _, _ => none)
  | _, _ => none
theorem liesAt_from {e : TypeId} (hc : P.cellsOf e = 1) (count off n : Nat) (hn : off + n ≤ count) : liesAt P P.depth e count off e n = true := by
  have hd : P.depth = (2 * (P.types.size + Made.depth) + 1) + 1 := rfl
  rw [hd]
  simp only [liesAt, Bool.or_eq_true]
  left
  rw [hd]
  simp [rowAt, hc, hn, sameLayout]
  exact .inl (Nat.mod_one off)
theorem run_ustr (w : World) (pt it ty e : TypeId) (hp : P.underlying pt = some (.pointer e)) (hc : P.cellsOf e = 1) (g off cells : Nat) (hsh : w.shape? g = some (e, cells)) (l : List UInt8) (h0 : l ≠ []) (hn : off + l.length ≤ cells) (h63 : l.length ≤ 9223372036854775807)
    (hcell : ∀ (j : Nat) x, l[j]? = some x → w.cell? ((⟨g, off, none⟩ : Addr).add j) = some (.int .u8 x.toNat)) :
    (Builtin.unsafeString_ #[pt, it] ty #[.pointer (some ⟨g, off, none⟩), .int .i64 l.length]).run P w = .ok (.string ⟨l.toArray⟩) (w.freeze ⟨g, off, none⟩ l.length) := by
  have hl : l.length ≠ 0 := by simpa using h0
  have hlb := Lib.run_loadBytes (P := P) w l ⟨g, off, none⟩ .empty hcell
  have hlies := liesAt_from (P := P) hc (cells / P.cellsOf e) off l.length (by rw [hc]; simpa using hn)
  have h63' : ¬ (9223372036854775807 : Int) < (l.length : Int) := by omega
  have hdef : Builtin.unsafeString_ #[pt, it] ty #[.pointer (some ⟨g, off, none⟩), .int .i64 l.length] =
      (do
        let n ← asInt (.int .i64 l.length)
        if n < 0 then runtimePanic (.error "unsafe.String: len out of range")
        if n > IntKind.i64.max then unsupported (.unsafePointer "String: a length above the largest int")
        if n = 0 then pure (.string .empty)
        else if ← variablesAt ⟨g, off, none⟩ (← elemOf pt) n.toNat then do
          let s ← loadBytes ⟨g, off, none⟩ .empty n.toNat
          freeze ⟨g, off, none⟩ n.toNat
          pure (.string s)
        else unsupported (.unsafePointer "String: not so many bytes at ptr")) := rfl
  rw [hdef]
  have hmax : IntKind.i64.max = 9223372036854775807 := rfl
  have hneg : ¬ (l.length : Int) < 0 := by omega
  simp [asInt, asIntOf, hmax, h63', hneg, hl, variablesAt, hsh, elemOf, run_underlying hp, hlies, hlb]
def killO (σ : Mem) : Option Nat → Mem
  | none => σ
  | some b => σ.kill b
theorem eop_ustr {c : Call} {x y : Operand} {pt it : TypeId} {σ : Mem} {s : ByteArray} {d : Option Nat} (ho : o.op = .call c) (hc : c.callee = .builtin .unsafeString) (ha : c.args = #[x, y]) (ht : c.argTypes = #[pt, it]) (h : ustrF G P σ pt (ρ x) (ρ y) = some (s, d)) : EOp G P o ρ σ (.string s) (killO σ d) := by
  have hops : ∀ z, z = x ∨ z = y → z ∈ (Op.call c).operands := fun z hz => by
    simp only [Op.operands, Call.operands, hc, ha]
    rcases hz with rfl | rfl <;> simp
  have runs : ∀ {a : Act} {w w' : World} {vc : Value}, (Builtin.unsafeString_ #[pt, it] o.type #[a.eval x, a.eval y]).run P w = .ok vc w' → (execOp a.eval o).run P w = .ok (.value vc) w' := fun {a w w' vc} hr => by
    unfold execOp
    simp only [ho, Sem.run_bind, resolve, hc, ha, ht, Result.andThen_ok, Sem.run_pure]
    simp [invoke, builtin, hr]
  unfold ustrF at h
  try simp only [uT_eq] at h
  split at h
  · rename_i hx hy
    cases h
    refine ⟨Nat.le_refl _, fun μ w a hs hG _ hor K Q k rd => ?_⟩
    rw [ho] at hor
    have hvx := hor x (hops x (.inl rfl))
    have hvy := hor y (hops y (.inr rfl))
    rw [hx] at hvx
    rw [hy] at hvy
    have ex := flatV_eq rfl hvx
    have ey := flatV_eq rfl hvy
    refine wp_of_value (runs (w' := w) (vc := .string .empty) ?_) (k _ w μ (Stp.refl hs hG) (.flat _ rfl))
    rw [ex, ey]
    exact Lib.run_unsafeString_none w _ _ _ _
  · rename_i b p n hx hy
    split at h
    · rename_i e r hu hr
      cases hk : (Nat.ble G b && Nat.beq (P.cellsOf e) 1 && Nat.beq r.t e && Nat.ble (p + (n + 1)) r.cs.length && Nat.ble (n + 1) 9223372036854775807) with
      | false => rw [hk] at h; cases h
      | true =>
        rw [hk] at h
        simp only [cond_true] at h
        simp only [Bool.and_eq_true, Nat.ble_eq, Nat.beq_eq] at hk
        obtain ⟨⟨⟨⟨k1, k2⟩, k3⟩, k4⟩, k5⟩ := hk
        split at h
        · rename_i l hl
          cases h
          refine ⟨Nat.le_refl _, fun μ w a hs hG _ hor K Q k rd => ?_⟩
          rw [ho] at hor
          have hvx := hor x (hops x (.inl rfl))
          have hvy := hor y (hops y (.inr rfl))
          rw [hx] at hvx
          rw [hy] at hvy
          obtain ⟨bi, hm, ex⟩ := hvx.ptr_of
          have ey := flatV_eq rfl hvy
          have hcs := bytesF_eq hl
          have hlen : l.length = n + 1 := by
            have := congrArg List.length hcs
            simp at this
            omega
          have hin := hs.blk b _ bi hr hm
          obtain ⟨cc, fz, t', hh, hf, hv⟩ := hin.lie
          obtain ⟨rfl, _, hz, _⟩ := hf (hs.rw_ b _ bi k1 hr hm)
          subst k3
          have hil := hin.len
          have hrun := run_ustr (P := P) w pt it o.type r.t hu k2 bi.blk (bi.sh + p) cc.size (by simp [World.shape?, hh]) l (by intro e; rw [e] at hlen; simp at hlen) (by rw [hz]; omega) (by omega) (fun j z hj => by
            have hjl : j < l.length := by
              rcases Nat.lt_or_ge j l.length with h | h
              · exact h
              · rw [List.getElem?_eq_none h] at hj; cases hj
            have e1 : ((r.cs.drop p).take (n + 1))[j]? = some (.int .u8 z.toNat) := by rw [hcs, List.getElem?_map, hj]; rfl
            rw [List.getElem?_take, if_pos (by omega), List.getElem?_drop] at e1
            obtain ⟨v', g1, g2⟩ := hv _ _ e1
            have g3 := flatV_eq rfl g2
            subst g3
            have e2 : ((⟨bi.blk, bi.sh + p, none⟩ : Addr).add j) = ⟨bi.blk, bi.sh + p + j, none⟩ := by
              unfold Addr.add
              by_cases hj0 : j = 0
              · subst hj0; simp
              · simp [hj0]
            rw [e2]
            simp only [World.cell?, hh]
            simpa [Nat.add_assoc] using g1)
          refine wp_of_value (runs (w' := w.freeze ⟨bi.blk, bi.sh + p, none⟩ l.length) (vc := .string ⟨l.toArray⟩) ?_) (k _ _ μ (Stp.turnKill hs hG k1 hr hm ?_ ?_ ?_ ?_ fun B hB => ?_) (.flat _ rfl))
          · rw [ex, ey]
            have e3 : (Int.ofNat (n + 1)) = (l.length : Int) := by rw [hlen]; rfl
            rw [e3]
            exact hrun
          all_goals (unfold World.freeze; split <;> first | rfl | simp [Array.getElem?_modify, Ne.symm hB] | simp)
        · cases h
    · cases h
  · cases h
/-- The function that a method of an interface value is. -/
noncomputable def methF (P : Program) (t : TypeId) (name : String) : Option FuncId :=
  match iT P t with
  | some i => (match i.methods.find? (·.name == name) with
    | some m => cond (Nat.beq m.path.size 0) (match m.func with
      | some (f, pr) => (match uT P t with
        | some (.pointer _) => cond pr (some f) none
        | some _ => cond pr none (some f)
        | none => none)
      | none => none) none
    | none => none)
  | none => none
theorem method_fuel {t : TypeId} {name : String} {f : FuncId} (h : methF P t name = some f) (v : Value) (n : Nat) (w : World) : (method (n + 1) t v name).run P w = .ok (f, v) w := by
  unfold methF at h
  try simp only [uT_eq, iT_eq] at h
  split at h
  · rename_i i hi
    split at h
    · rename_i m hm
      cases hp : Nat.beq m.path.size 0 with
      | false => rw [hp] at h; cases h
      | true =>
        rw [hp] at h
        simp only [cond_true] at h
        have hp0 : m.path = #[] := Array.eq_empty_of_size_eq_zero (Nat.eq_of_beq_eq_true hp)
        split at h
        · rename_i f' pr hf
          have base : (method (n + 1) t v name).run P w = ((receiverAt t (.val v) pr (if m.path.isEmpty then some ((name.splitOn ".").getLastD name) else none)).run P w).andThen fun r w' => .ok (f', r) w' := by
            simp only [method, Sem.run_bind, typeInfo, run_program, Result.andThen_ok, hi, Sem.run_pure, hm, hp0, follow, hf]
          rw [base]
          generalize (if m.path.isEmpty then some ((name.splitOn ".").getLastD name) else none) = wr
          split at h
          · rename_i e hu
            cases pr with
            | false => cases h
            | true =>
              cases h
              unfold receiverAt
              simp only [Sem.run_bind, run_underlying hu, Result.andThen_ok]
              rfl
          · rename_i d hnp hu
            cases pr with
            | true => cases h
            | false =>
              cases h
              unfold receiverAt
              simp only [Sem.run_bind, run_underlying hu, Result.andThen_ok]
              cases d <;> first | rfl | exact absurd hu (hnp _)
          · cases h
        · cases h
    · cases h
  · cases h
theorem method_run {t : TypeId} {name : String} {f : FuncId} (h : methF P t name = some f) (v : Value) (w : World) : (method (P.types.size + Made.depth) t v name).run P w = .ok (f, v) w :=
  method_fuel h v (P.types.size + 99) w
theorem eop_invoke {c : Call} {x : Operand} {name : String} {t : TypeId} {u : Value} {f : FuncId} {σ σ' : Mem} (ho : o.op = .call c) (hc : c.callee = .invoke x name) (hx : ρ x = .iface t u) (hm : methF P t name = some f) (hp : plainFn P f = true)
    (h : SCall G P f (#[u] ++ c.args.map ρ) σ v σ') : EOp G P o ρ σ v σ' := by
  refine ⟨h.1, fun μ w a hs hG hf hor K Q k rd => ?_⟩
  rw [ho] at hor
  have hops : ∀ y, y = x ∨ y ∈ c.args → y ∈ (Op.call c).operands := fun y hy => by
    simp only [Op.operands, Call.operands, hc]
    rcases hy with rfl | hy <;> simp [*]
  have h1 := hor x (hops x (.inl rfl))
  rw [hx] at h1
  obtain ⟨u', e, hu⟩ := h1.iface_inv
  have hargs := ARel.map fun y hy => hor y (hops y (.inr hy))
  refine wp_of_enter (f := f) (args := #[u'] ++ c.args.map a.eval) (w' := w) ?_ ?_
  · unfold execOp
    simp only [ho, Sem.run_bind, resolve, hc, Sem.run_pure, Result.andThen_ok, invoke, e]
    have e0 : (#[Value.iface t u'] ++ c.args.map a.eval)[0]? = some (.iface t u') := by rw [Array.getElem?_append_left (by simp)]; rfl
    have e1 : (#[Value.iface t u'] ++ c.args.map a.eval).extract 1 (#[Value.iface t u'] ++ c.args.map a.eval).size = c.args.map a.eval := by
      apply Array.ext'
      simp [List.take_of_length_le]
    simp only [e0, e1, callMethod, Sem.run_bind, run_program, Result.andThen_ok, method_run hm, callFunc_run hp]
  · refine (h.2 μ w _ hs hG hf ((ARel.one hu).append hargs)).mono ?_
    rintro e w' ⟨vc, μ', rfl, hst, hv⟩
    exact ⟨vc, rfl, k vc w' μ' hst hv⟩
/-- A slice of a slice that says how much room there is. -/
noncomputable def slice3F (P : Program) (t : TypeId) (x : Value) (lo : Option Value) (hi mx : Value) : Option Value :=
  match x, uT P t, boundF lo 0 9223372036854775807, hi, mx with
  | .slice (some ⟨b, p, _⟩) n c, some (.slice e), some l, .int _ (.ofNat h), .int _ (.ofNat m) => (match sizeT P e with
    | some sz => if n ≠ 0 ∧ l ≤ h ∧ h ≤ m ∧ m ≤ c then some (.slice (some (if m = l then ⟨b, p, none⟩ else ⟨b, p + l * sz, none⟩)) (h - l) (m - l)) else none
    | none => none)
  | _, _, _, _, _ => none
theorem vop_slice3 {t : TypeId} {x hi mx : Operand} {lo : Option Operand} (ho : o.op = .slice t x lo (some hi) (some mx)) (h : slice3F P t (ρ x) (lo.map ρ) (ρ hi) (ρ mx) = some v) : VOp P o ρ v := fun μ ρc hor => by
  rw [ho] at hor
  have h1 := hor x (by simp [Op.operands])
  have h2 := hor hi (by simp [Op.operands])
  have h3 := hor mx (by simp [Op.operands])
  have hlo : ∀ y, lo.map ρ = some y → ∃ y', lo.map ρc = some y' ∧ VRel μ y y' := fun y hy => by
    cases lo with
    | none => cases hy
    | some z => cases hy; exact ⟨_, rfl, hor z (by simp [Op.operands])⟩
  have nlo : lo.map ρ = none → lo.map ρc = none := fun e => by cases lo with | none => rfl | some z => cases e
  unfold slice3F at h
  try simp only [uT_eq] at h
  split at h
  · rename_i b p sp n c e l k1 hn k2 mn hx hu hl hhi hmx
    rw [hx] at h1
    rw [hhi] at h2
    rw [hmx] at h3
    have e2 := flatV_eq rfl h2
    have e3 := flatV_eq rfl h3
    obtain ⟨bi, q, c', hb, es, hcc, hq⟩ := h1.slice_inv
    split at h
    · rename_i sz hs
      split at h
      · rename_i hk
        obtain ⟨hn0, g1, g2, g3⟩ := hk
        cases h
        obtain rfl := hq hn0
        have bl := boundF_rel hlo nlo (Nat.le_refl _) hl
        have hbnd : ∀ w, (Instr.sliceBounds true n c' (lo.map ρc) (some (.int k1 (.ofNat hn))) (some (.int k2 (.ofNat mn)))).run P w = .ok (l, hn, mn) w := fun w => by
          have hm1 : ∀ c : BoundsCode, (Instr.sliceBound (.int k2 (.ofNat mn)) c' c).run P w = .ok mn w := fun c => bound_run (P := P) (x := .int k2 (.ofNat mn)) (top := c') rfl (show (0 : Int) ≤ Int.ofNat mn ∧ Int.ofNat mn ≤ (c' : Int) from ⟨Int.natCast_nonneg mn, Int.ofNat_le.2 (by omega)⟩) c w
          have hh1 : ∀ c : BoundsCode, (Instr.sliceBound (.int k1 (.ofNat hn)) mn c).run P w = .ok hn w := fun c => bound_run (P := P) (x := .int k1 (.ofNat hn)) (top := mn) rfl (show (0 : Int) ≤ Int.ofNat hn ∧ Int.ofNat hn ≤ (mn : Int) from ⟨Int.natCast_nonneg hn, Int.ofNat_le.2 g2⟩) c w
          unfold Instr.sliceBounds
          rcases bl with ⟨_, e, rfl⟩ | ⟨k, i, e, b1, b2, b3, b4⟩
          · rw [e]
            simp only [Sem.run_bind, hm1, Result.andThen_ok, if_true, hh1]
            simp
          · rw [e]
            have hl1 := bound_run (P := P) (x := .int k i) (top := hn) rfl (show (0 : Int) ≤ i ∧ i ≤ (hn : Int) from ⟨b1, by omega⟩)
            simp only [Sem.run_bind, hm1, Result.andThen_ok, if_true, hh1, hl1]
            simp [b4]
        refine ⟨.slice (some ⟨bi.blk, if mn = l then bi.sh + p else bi.sh + p + l * sz, none⟩) (hn - l) (mn - l), ?_, fun w => ?_⟩
        · split
          · exact .sliceE _ _ _ _ bi hb
          · rw [Nat.add_assoc]; exact .sliceE _ _ _ _ bi hb
        · unfold execOp
          simp only [ho, Instr.sliceAt, Sem.run_bind, run_underlying hu, Result.andThen_ok, es, Option.map_some, Instr.slice, e2, e3, hbnd, sizeOf_run hs, Sem.run_pure]
          split <;> simp [add_none]
      · cases h
    · cases h
  · cases h
/-- cap, where it is known. -/
def capF : Value → Option Value
  | .slice none 0 0 => some (.int .i64 0)
  | .slice (some ⟨_, _, none⟩) _ c => some (.int .i64 c)
  | _ => none
theorem vop_cap {c : Call} {x : Operand} {t e : TypeId} (ho : o.op = .call c) (hc : c.callee = .builtin .cap) (ha : c.args = #[x]) (ht : c.argTypes = #[t]) (hu : P.underlying t = some (.slice e)) (h : capF (ρ x) = some v) : VOp P o ρ v := fun μ ρc hor => by
  rw [ho] at hor
  have h1 := hor x (by simp [Op.operands, Call.operands, hc, ha])
  have runs : ∀ {w w' : World} {vc : Value}, (Builtin.cap_ #[t] o.type #[ρc x]).run P w = .ok vc w' → (execOp ρc o).run P w = .ok (.value vc) w' := fun {w w' vc} hr => by
    unfold execOp
    simp only [ho, Sem.run_bind, resolve, hc, ha, ht, Result.andThen_ok, Sem.run_pure]
    simp [invoke, builtin, hr]
  unfold capF at h
  split at h
  · rename_i hx
    cases h
    rw [hx] at h1
    have h1 := flatV_eq rfl h1
    exact ⟨_, .flat _ rfl, fun w => runs (by simp [Builtin.cap_, run_underlying hu, h1, goInt])⟩
  · rename_i b p n c hx
    cases h
    rw [hx] at h1
    obtain ⟨bi, hb, e1⟩ := h1.sliceE_inv
    exact ⟨_, .flat _ rfl, fun w => runs (by simp [Builtin.cap_, run_underlying hu, e1, goInt])⟩
  · cases h
end Go.Proofs.YtmlmnbcnfalaaaaDoor
