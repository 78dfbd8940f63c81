/-
  A builder's buffer in the second memory: strings appended, the buffer made a string. Over any program. Conditions: none.
  A builder's pointer to itself; its buffer made a string where a region's order is open. Over any program. Conditions: none.
-/
import Derived.Test.YthemeeiedlbhkaaDoorL3
import Derived.Test.YthemeeiedlbhkaaDoorK1
namespace Go.Proofs.YthemeeiedlbhkaaDoor
set_option maxRecDepth 100000
section
variable {G : Nat} {A : Abs} {F : Nat → Option Blk2} {σ : Mem} {L : List Ent} {P : Program} {nt : Nat} {ops : Array Oper} {l : List Oper} {ta : Nat → Value} {rs : List (Rec × Mem)} {o : Oper} {K : (Nat → Value) → Mem → Prop}
theorem bytesF_map : ∀ bs : List UInt8, bytesF (bs.map byteV) = some bs
 | [] => rfl
 | b :: bs => by
  have hb : b.toNat < 256 := b.toNat_lt
  show (if 0 ≤ ((b.toNat : Nat) : Int) ∧ ((b.toNat : Nat) : Int) < 256 then (match bytesF (bs.map byteV) with | some ns => some (UInt8.ofNat ((b.toNat : Nat) : Int).toNat :: ns) | none => none) else none) = _
  rw [if_pos ⟨by omega, by omega⟩, bytesF_map bs]
  simp
theorem gr_split {σ : Mem} {e n : Nat} {v : Value} {xs : List Value} (h : GRow G σ e 1 v n xs) : (v = .slice none 0 0 ∧ n = 0 ∧ xs = []) ∨ ∃ b c r, v = .slice (some ⟨b, 0, some 1⟩) n c ∧ G ≤ b ∧ σ.get b = some (.row r) ∧ r.t = e ∧ r.cs.length = c * 1 ∧ n ≤ c ∧ r.cs.take (n * 1) = xs := by
 cases h with
 | nil => exact .inl ⟨rfl, rfl, rfl⟩
 | @row b n c r xs hq hr ht hc hl hx => exact .inr ⟨b, c, r, rfl, hq, hr, ht, hc, hl, hx⟩
set_option maxHeartbeats 8000000 in
theorem RW.appStr (H : Lies G A F σ L) (k : Nat) {c : Call} {s_ x_ : Operand} {t u e l0 : Nat} {v : Value} {xs : List Value} {bs : List UInt8} (hw : wantedT ops ta o = true) (hk : opndOk G o = true) (ho : o.op = .call c) (hc : c.callee = .builtin .append) (ha : c.args = #[s_, x_]) (ht : c.argTypes = #[t, u]) (hsv : oper2 ta s_ = v) (hxv : oper2 ta x_ = .string ⟨bs.toArray⟩)
    (hl : lookL L k = some (.sl e 1 v l0 xs)) (htt : uT P t = some (.slice e)) (huu : uT P u = some .string) (hi : infoB P e 1 64 = true) (hb : l0 + bs.length ≤ 1000000) (hd : dstOk nt o.dst = true)
    (h : ∀ σ' v' rs', (bs = [] → v' = v) → (bs ≠ [] → v' ≠ .slice none 0 0) → Lies G A F σ' (setL L k (.sl e 1 v' (l0 + bs.length) (xs ++ bs.map byteV))) → RW G P nt ops l (putO ta o.dst v') σ' rs' fun _ => K) : RW G P nt ops (o :: l) ta σ rs fun _ => K := by
  obtain ⟨i, z, h1, h2, h3, h4, h5⟩ := infoB_ok hi
  have hg := H.sl k hl
  have hsrc : srcG .string i z σ (.string ⟨bs.toArray⟩) = some (bs.length, bs.map byteV) := by
    show srcF σ i.size (.string ⟨bs.toArray⟩) = _
    rw [h4]
    rfl
  by_cases h0 : bs = []
  · subst h0
    have k1 : appendF G P σ t u v (.string ⟨([] : List UInt8).toArray⟩) = some (v, .same) := by
      unfold appendF
      rw [htt, huu]
      simp only [h1, h2]
      rw [if_pos ⟨h3, by omega⟩]
      simp only [hsrc, List.length_nil, if_pos trivial]
      cases hg with
      | nil => rfl
      | @row q n c r xs hq hr hte hcl hln hx => simp only [if_pos hln]
    rw [← hsv, ← hxv] at k1
    refine RW.append hw hk ho hc ha ht k1 hd ?_
    rw [hsv]
    refine h _ _ _ (fun _ => rfl) (fun e => absurd rfl e) ?_
    rw [List.map_nil, List.append_nil, List.length_nil, Nat.add_zero, setL_same hl]
    exact H
  · have hn : 0 < bs.length := List.length_pos_iff.2 h0
    have hmul : (l0 + bs.length) * i.bytes ≤ 1000000 * 64 := Nat.mul_le_mul hb h5
    obtain ⟨v', cmd, k1, k2, k3, k4, k5, k6⟩ := grow_append (P := P) hg H.gn htt huu h1 h2 h3 h4 (by decide) hsrc hn (by rw [List.all_map, List.all_eq_true]; exact fun _ _ => rfl) ⟨by omega, by omega⟩
    rw [← hsv, ← hxv] at k1
    refine RW.append hw hk ho hc ha ht k1 hd (h _ _ _ (fun e => absurd e h0) (fun _ e => ?_) (H.grown k hl k2 k3 k4 k5 fun b hb => ?_))
    · rw [e] at k2
      rcases gr_split k2 with ⟨_, e2, _⟩ | ⟨_, _, _, e2, _⟩
      · omega
      · cases e2
    · rcases k6 with k6 | k6
      · exact .inl (k6 ▸ hb)
      · rw [k6] at hb
        cases hb
        exact .inr (Nat.le_refl _)
def DataV (v p : Value) : Prop := (v = .slice none 0 0 ∧ p = .pointer none) ∨ ∃ b sp n c, v = .slice (some ⟨b, 0, sp⟩) n c ∧ p = .pointer (some ⟨b, 0, none⟩)
theorem apart_sl : ∀ {L : List Ent} {k b : Nat} {x z : Ent}, Apart F L → lookL L k = some x → x.blk = some b → z ∈ delL L k → z.blk = some b → False
 | y :: l, 0, b, x, z, hp, e, hx, hz, hc => by cases e; exact (hp.1 b hx).2 z hz hc
 | y :: l, k + 1, b, x, z, hp, e, hx, hz, hc => by
  rcases List.mem_cons.1 hz with h | h
  ·subst h; exact (hp.1 b hc).2 _ (lookL_mem (L := l) e) hx
  ·exact apart_sl hp.2 e hx h hc
theorem Lies.killSl (H : Lies G A F σ L) (k : Nat) {e s n b : Nat} {v : Value} {xs : List Value} (hl : lookL L k = some (.sl e s v n xs)) (hb : blkOf v = some b) : Lies G A F (σ.kill b) (delL L k) := by
 have hkeep : ∀ c y, c ≠ b → σ.get c = some y → (σ.kill b).get c = some y := fun c y hc hy => by rw [Mem.kill_get, if_neg hc]; exact hy
 have hF := H.apart.mem _ (lookL_mem hl) b hb
 refine ⟨H.gn, fun c y hy => hkeep c y (fun e => by rw [e, hF] at hy; cases hy) (H.old c y hy), H.abs, ?_, H.apart.del k⟩
 exact (H.ok.del k).keep fun x hx c y hc hy => hkeep c y (fun e => apart_sl H.apart hl hb hx (e ▸ hc)) hy
end
end Go.Proofs.YthemeeiedlbhkaaDoor
namespace Go.Proofs.YthemeeiedlbhkaaDoor
set_option maxRecDepth 100000
section
variable {G : Nat} {A : Abs} {F : Nat → Option Blk2} {σ : Mem} {L : List Ent} {P : Program} {nt : Nat} {ops : Array Oper} {l : List Oper} {ta : Nat → Value} {rs : List (Rec × Mem)} {o : Oper} {K : List (Rec × Mem) → (Nat → Value) → Mem → Prop}
set_option maxHeartbeats 8000000 in
theorem RW.toUns (H : Lies G A F σ L) (k : Nat) {src dst t : TypeId} {x : Operand} {b : Nat} {r : Row} (hw : wantedT ops ta o = true) (hk : opndOk G o = true) (ho : o.op = .convert src dst x) (hx : oper2 ta x = .pointer (some ⟨b, 0, none⟩)) (hl : lookL L k = some (.at_ b (.row r))) (h1 : uT P src = some (.pointer t)) (h2 : uT P dst = some .unsafePointer) (h3 : (match iT P t with | some j => Nat.blt 0 j.size && Nat.blt 0 r.cs.length | none => false) = true) (hd : dstOk nt o.dst = true)
    (h : RW G P nt ops l (putO ta o.dst (.pointer (some ⟨b, 0, none⟩))) σ ((.eff (.pointer (some ⟨b, 0, none⟩)), σ) :: rs) K) : RW G P nt ops (o :: l) ta σ rs K := by
  have hp : ptrF G P σ src dst (oper2 ta x) = true := by
    rw [hx]
    unfold ptrF
    simp only [h1, h2, H.get k hl]
    exact h3
  have he := eop_ptr (P := P) (G := G) ho hp
  rw [hx] at he
  exact RW.eff hw hk he hd h
set_option maxHeartbeats 8000000 in
theorem RW.fromUns (H : Lies G A F σ L) (k : Nat) {src dst t : TypeId} {x : Operand} {b : Nat} {r : Row} (hw : wantedT ops ta o = true) (hk : opndOk G o = true) (ho : o.op = .convert src dst x) (hx : oper2 ta x = .pointer (some ⟨b, 0, none⟩)) (hl : lookL L k = some (.at_ b (.row r))) (h1 : uT P src = some .unsafePointer) (h2 : uT P dst = some (.pointer t)) (h3 : (match iT P t with | some _ => !r.g && Nat.blt 0 r.cs.length && liesAt P P.depth r.t (r.cs.length / P.cellsOf r.t) 0 t 1 | none => false) = true) (hd : dstOk nt o.dst = true)
    (h : RW G P nt ops l (putO ta o.dst (.pointer (some ⟨b, 0, none⟩))) σ ((.eff (.pointer (some ⟨b, 0, none⟩)), σ) :: rs) K) : RW G P nt ops (o :: l) ta σ rs K := by
  have hp : ptrF G P σ src dst (oper2 ta x) = true := by
    rw [hx]
    unfold ptrF
    simp only [h1, h2, H.get k hl]
    have hG := H.low k hl
    cases hj : iT P t with
    | none => rw [hj] at h3; cases h3
    | some j =>
      rw [hj] at h3
      simp only [Bool.and_eq_true] at h3 ⊢
      exact ⟨⟨⟨Nat.ble_eq_true_of_le hG, h3.1.1⟩, h3.1.2⟩, h3.2⟩
  have he := eop_ptr (P := P) (G := G) ho hp
  rw [hx] at he
  exact RW.eff hw hk he hd h
theorem vop_ptrNe {ρ : Operand → Value} {x y : Operand} {t t' : TypeId} {b : Nat} {e : TypeId} (ho : o.op = .binOp .neq t x y t') (hx : ρ x = .pointer (some ⟨b, 0, none⟩)) (hy : ρ y = .pointer (some ⟨b, 0, none⟩)) (hu : uT P t = some (.pointer e)) (hs : (match sizeT P e with | some (_ + 1) => true | _ => false) = true) : VOp P o ρ (.bool false) := by
 refine vop_ptrEq ho ?_
 rw [hx, hy]
 unfold ptrEq
 simp only [hu, Nat.beq_refl]
 split at hs
 ·next h => rw [h]; rfl
 ·cases hs
set_option maxHeartbeats 8000000 in
theorem RW.ustrGD (H : Lies G A F σ L) (k : Nat) {c : Call} {x y : Operand} {pt it e : TypeId} {v p : Value} {bs : List UInt8} (hw : wantedT ops ta o = true) (hk : opndOk G o = true) (ho : o.op = .call c) (hc : c.callee = .builtin .unsafeString) (ha : c.args = #[x, y]) (ht : c.argTypes = #[pt, it]) (hx : oper2 ta x = p) (hy : oper2 ta y = .int .i64 ((bs.length : Nat) : Int)) (hp : DataV v p) (hn : bs = [] → v = .slice none 0 0)
    (hl : lookL L k = some (.sl e 1 v bs.length (bs.map byteV))) (hup : uT P pt = some (.pointer e)) (hce : P.cellsOf e = 1) (hlen : bs.length ≤ 1000000) (hd : dstOk nt o.dst = true)
    (h : ∀ σ', Lies G A F σ' (delL L k) → RW G P nt ops l (putO ta o.dst (.string ⟨bs.toArray⟩)) σ' ((.eff (.string ⟨bs.toArray⟩), σ) :: rs) K) : RW G P nt ops (o :: l) ta σ rs K := by
  have hg := H.sl k hl
  by_cases h0 : bs = []
  · subst h0
    obtain rfl := hn rfl
    have hp0 : p = .pointer none := by
      rcases hp with ⟨_, e⟩ | ⟨b, sp, n, c, e, _⟩
      · exact e
      · cases e
    subst hp0
    have hu : ustrF G P σ pt (oper2 ta x) (oper2 ta y) = some (.empty, none) := by rw [hx, hy]; rfl
    exact RW.eff hw hk (eop_ustr ho hc ha ht hu) hd (h _ (H.del k))
  · rcases gr_split hg with ⟨_, e2, _⟩ | ⟨b, c, r, rfl, hq, hr, hte, hcl, hln, hx0⟩
    · exact absurd (List.eq_nil_of_length_eq_zero e2) h0
    · have hp0 : p = .pointer (some ⟨b, 0, none⟩) := by
        rcases hp with ⟨e2, _⟩ | ⟨b2, sp, n, c2, e2, e3⟩
        · cases e2
        · cases e2; exact e3
      subst hp0
      obtain ⟨m, hm⟩ : ∃ m, bs.length = m + 1 := ⟨bs.length - 1, by have := List.length_pos_iff.2 h0; omega⟩
      have hcells : (r.cs.drop 0).take (m + 1) = bs.map byteV := by rw [List.drop_zero, ← hm, ← hx0, Nat.mul_one]
      have hu : ustrF G P σ pt (oper2 ta x) (oper2 ta y) = some (⟨bs.toArray⟩, some b) := by
        rw [hx, hy, hm]
        show (match uT P pt, σ.get b with
          | some (.pointer e), some (.row r) => cond (Nat.ble G b && Nat.beq (P.cellsOf e) 1 && Nat.beq r.t e && Nat.ble (0 + (m + 1)) r.cs.length && Nat.ble (m + 1) 9223372036854775807) (match bytesF ((r.cs.drop 0).take (m + 1)) with | some l => some ((⟨l.toArray⟩ : ByteArray), some b) | none => none) none
          | _, _ => none) = _
        rw [hup, hr]
        show cond _ (match bytesF ((r.cs.drop 0).take (m + 1)) with | some l => some ((⟨l.toArray⟩ : ByteArray), some b) | none => none) none = _
        rw [hcells, bytesF_map, hce, hte, Nat.ble_eq_true_of_le hq, Nat.ble_eq_true_of_le (show 0 + (m + 1) ≤ r.cs.length by omega), Nat.ble_eq_true_of_le (show m + 1 ≤ 9223372036854775807 by omega), show Nat.beq 1 1 = true from rfl, Nat.beq_refl]
        rfl
      exact RW.eff hw hk (eop_ustr ho hc ha ht hu) hd (h _ (H.killSl k hl rfl))
end
theorem wrap_u32 {n : Int} (h0 : 0 ≤ n) (h1 : n ≤ 4294967295) : IntKind.u32.wrap n = n := by
 simp [IntKind.wrap, IntKind.bits, IntKind.signed]
 omega
theorem wrap_u8 {n : Int} (h0 : 0 ≤ n) (h1 : n ≤ 255) : IntKind.u8.wrap n = n := by
 simp [IntKind.wrap, IntKind.bits, IntKind.signed]
 omega
theorem bytes_snoc (bs : List UInt8) (x : UInt8) : bs.map byteV ++ [.int .u8 ((x.toNat : Nat) : Int)] = (bs ++ [x]).map byteV := by rw [List.map_append]; rfl
theorem bytes_cat (bs cs : List UInt8) : bs.map byteV ++ cs.map byteV = (bs ++ cs).map byteV := List.map_append.symm
end Go.Proofs.YthemeeiedlbhkaaDoor
