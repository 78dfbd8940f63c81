/-
  Strings in the second memory: joined, their length, their bytes in a row of their own. Over any program. Conditions: none.
  Open strings in the second memory: held against one another, cut, their bytes one by one; bytes made a string. Over any program. Conditions: none.
  min of two open numbers. Over any program. Conditions: none.
  An element is appended to a slice that was built; bytes of a row that stands among the entries made a string. Over any program. Conditions: none.
  awake of the chapter of layout answers true, in the second memory. Conditions: none.
  LayoutKnown answers true, in the second memory. Conditions: none.
  Parts handed to a law; LayoutKnown in the second memory. Conditions: none.
-/
import Derived.Test.YtmmapljeeccdnaaDoorS4
import Derived.Test.YtmmapljeeccdnaaDoorK1
import Derived.Test.YtmmapljeeccdnaaDoorS2
import Derived.Laws.Slices
import Derived.Laws.Strings
import Derived.WideShapes
import Derived.Test.YtmmapljeeccdnaaDoorRowsU
import Derived.KernelRfl
import Derived.Test.YtmmapljeeccdnaaDoorL3
namespace Go.Proofs.YtmmapljeeccdnaaDoor
set_option maxRecDepth 100000
section
variable {P : Program} {o : Oper} {ρ : Operand → Value}
theorem vop_strAdd {t t' : TypeId} {x y : Operand} {a b : ByteArray} (ho : o.op = .binOp .add t x y t') (hx : ρ x = .string a) (hy : ρ y = .string b) (hs : a.size + b.size ≤ 1000000000000) : VOp P o ρ (.string (a ++ b)) := fun μ ρc hor => by
  rw [ho] at hor
  have h1 := hor x (by simp [Op.operands])
  have h2 := hor y (by simp [Op.operands])
  rw [hx] at h1
  rw [hy] at h2
  have h1 := flatV_eq rfl h1
  have h2 := flatV_eq rfl h2
  have hn : ¬ (((a.size + b.size : Nat) : Int) > IntKind.i64.max) := by
    have : IntKind.i64.max = 9223372036854775807 := by decide
    omega
  refine ⟨_, .flat _ rfl, fun w => ?_⟩
  unfold execOp
  simp only [ho, h1, h2]
  simp only [eqGuard, binOp, Op.stringOp, if_neg hn]
  rfl
theorem vop_strLen {c : Call} {x : Operand} {t : TypeId} {a : ByteArray} (ho : o.op = .call c) (hc : c.callee = .builtin .len) (ha : c.args = #[x]) (ht : c.argTypes = #[t]) (hu : P.underlying t = some .string) (hx : ρ x = .string a) : VOp P o ρ (.int .i64 a.size) := fun μ ρc hor => by
  rw [ho] at hor
  have h1 := hor x (by simp [Op.operands, Call.operands, hc, ha])
  rw [hx] at h1
  have h1 := flatV_eq rfl h1
  refine ⟨_, .flat _ rfl, fun w => ?_⟩
  unfold execOp
  simp only [ho, Sem.run_bind, resolve, hc, ha, ht, Result.andThen_ok, Sem.run_pure]
  simp [invoke, builtin, Builtin.len_, run_underlying hu, h1, goInt]
end
section
variable {P : Program} {G nt : Nat} {ops : Array Oper} {l : List Oper} {o : Oper} {ta : Nat → Value} {σ : Mem} {rs : List (Rec × Mem)} {A : Abs} {F : Nat → Option Blk2} {L : List Ent} {K : List (Rec × Mem) → (Nat → Value) → Mem → Prop}
theorem RW.conv (H : Lies G A F σ L) {src dst e : TypeId} {x : Operand} {s : ByteArray} {cs : List Value} (hw : wantedT ops ta o = true) (hk : opndOk G o = true) (ho : o.op = .convert src dst x) (hx : oper2 ta x = .string s) (hc : convF P src dst s = some (e, cs)) (hd : dstOk nt o.dst = true)
    (h : ∀ σ' v', Lies G A F σ' (.sl e 1 v' cs.length cs :: L) → RW G P nt ops l (putO ta o.dst v') σ' ((.eff v', σ) :: rs) K) : RW G P nt ops (o :: l) ta σ rs K := by
  refine RW.eff hw hk (eop_conv ho hx hc) hd (h _ _ ?_)
  have g : Grow σ (σ.push (.row ⟨cs, e, true⟩)) := ⟨fun b y hy => get_push_old hy, Nat.le_succ _, rfl⟩
  exact H.addSl g (.row H.gn get_push rfl (by rw [Nat.mul_one]) (Nat.le_refl _) (List.take_of_length_le (by rw [Nat.mul_one]; exact Nat.le_refl _))) fun c hc => by cases hc; exact Nat.le_refl _
end
end Go.Proofs.YtmmapljeeccdnaaDoor
namespace Go.Proofs.YtmmapljeeccdnaaDoor
set_option maxRecDepth 100000
section
variable {P : Program} {o : Oper} {ρ : Operand → Value}
theorem vop_sHead {t : TypeId} {x h : Operand} {k : IntKind} {s : ByteArray} {j : Nat} (ho : o.op = .slice t x none (some h) none) (hx : ρ x = .string s) (hh : ρ h = .int k ((j : Nat) : Int)) (hu : P.underlying t = some .string) (hj : j ≤ s.size) : VOp P o ρ (.string (s.extract 0 j)) := fun μ ρc hor => by
  rw [ho] at hor
  have h1 := hor x (by simp [Op.operands])
  have h2 := hor h (by simp [Op.operands])
  rw [hx] at h1
  rw [hh] at h2
  have h1 := flatV_eq rfl h1
  have h2 := flatV_eq rfl h2
  refine ⟨_, .flat _ rfl, fun w => ?_⟩
  unfold execOp
  simp only [ho, h1, h2, Instr.sliceAt, Option.map_some, Option.map_none, Sem.run_bind, run_underlying hu, Result.andThen_ok]
  rw [run_slice_string_h w t s hu k ((j : Nat) : Int) (by omega) (by omega)]
  simp
theorem vop_sTail {t : TypeId} {x l : Operand} {k : IntKind} {s : ByteArray} {j : Nat} (ho : o.op = .slice t x (some l) none none) (hx : ρ x = .string s) (hh : ρ l = .int k ((j : Nat) : Int)) (hu : P.underlying t = some .string) (hj : j ≤ s.size) : VOp P o ρ (.string (s.extract j s.size)) := fun μ ρc hor => by
  rw [ho] at hor
  have h1 := hor x (by simp [Op.operands])
  have h2 := hor l (by simp [Op.operands])
  rw [hx] at h1
  rw [hh] at h2
  have h1 := flatV_eq rfl h1
  have h2 := flatV_eq rfl h2
  refine ⟨_, .flat _ rfl, fun w => ?_⟩
  unfold execOp
  simp only [ho, h1, h2, Instr.sliceAt, Option.map_some, Option.map_none, Sem.run_bind, run_underlying hu, Result.andThen_ok]
  rw [run_slice_string_l w t s hu k ((j : Nat) : Int) (by omega) (by omega)]
  simp
theorem vop_sAt {t : TypeId} {x i : Operand} {k : IntKind} {s : ByteArray} {j : Nat} (ho : o.op = .index t x i) (hx : ρ x = .string s) (hi : ρ i = .int k ((j : Nat) : Int)) (hu : P.underlying t = some .string) (hj : j < s.size) : VOp P o ρ (.int .u8 ((s.data.toList.getD j 0).toNat : Int)) := fun μ ρc hor => by
  rw [ho] at hor
  have h1 := hor x (by simp [Op.operands])
  have h2 := hor i (by simp [Op.operands])
  rw [hx] at h1
  rw [hi] at h2
  have h1 := flatV_eq rfl h1
  have h2 := flatV_eq rfl h2
  refine ⟨_, .flat _ rfl, fun w => ?_⟩
  have hs : (s[j]'hj) = s.data.toList.getD j 0 := by
    have hz : j < s.data.toList.length := hj
    rw [List.getD_eq_getElem?_getD, List.getElem?_eq_getElem hz]
    rfl
  unfold execOp
  simp only [ho, h1, h2, Sem.run_bind]
  rw [run_index_string w t s k _ hu, dif_pos (by omega)]
  simp [hs]
theorem ba_append (a b : List UInt8) : (⟨a.toArray⟩ ++ ⟨b.toArray⟩ : ByteArray) = ⟨(a ++ b).toArray⟩ := by
  apply Go.WideShapes.bytes_inj
  rw [ByteArray.data_append, Array.toList_append]
theorem ba_head {a : List UInt8} {j : Nat} : (⟨a.toArray⟩ : ByteArray).extract 0 j = ⟨(a.take j).toArray⟩ := by
  apply Go.WideShapes.bytes_inj
  rw [ByteArray.data_extract, Array.toList_extract]
  simp [List.extract]
theorem ba_tail {a : List UInt8} {j : Nat} : (⟨a.toArray⟩ : ByteArray).extract j (⟨a.toArray⟩ : ByteArray).size = ⟨(a.drop j).toArray⟩ := by
  apply Go.WideShapes.bytes_inj
  rw [ByteArray.data_extract, Array.toList_extract]
  show (a.extract j a.length) = a.drop j
  rw [List.extract_eq_take_drop]
  exact List.take_of_length_le (by rw [List.length_drop]; exact Nat.le_refl _)
theorem vop_sAddL {t t' : TypeId} {x y : Operand} {a b : List UInt8} (ho : o.op = .binOp .add t x y t') (hx : ρ x = .string ⟨a.toArray⟩) (hy : ρ y = .string ⟨b.toArray⟩) (hs : a.length + b.length ≤ 1000000000000) : VOp P o ρ (.string ⟨(a ++ b).toArray⟩) :=
  ba_append a b ▸ vop_strAdd ho hx hy hs
theorem vop_sHeadL {t : TypeId} {x h : Operand} {k : IntKind} {a : List UInt8} {j : Nat} (ho : o.op = .slice t x none (some h) none) (hx : ρ x = .string ⟨a.toArray⟩) (hh : ρ h = .int k ((j : Nat) : Int)) (hu : P.underlying t = some .string) (hj : j ≤ a.length) : VOp P o ρ (.string ⟨(a.take j).toArray⟩) :=
  ba_head ▸ vop_sHead ho hx hh hu hj
theorem vop_sTailL {t : TypeId} {x l : Operand} {k : IntKind} {a : List UInt8} {j : Nat} (ho : o.op = .slice t x (some l) none none) (hx : ρ x = .string ⟨a.toArray⟩) (hh : ρ l = .int k ((j : Nat) : Int)) (hu : P.underlying t = some .string) (hj : j ≤ a.length) : VOp P o ρ (.string ⟨(a.drop j).toArray⟩) :=
  ba_tail ▸ vop_sTail ho hx hh hu hj
theorem vop_sAtL {t : TypeId} {x i : Operand} {k : IntKind} {a : List UInt8} {j : Nat} (ho : o.op = .index t x i) (hx : ρ x = .string ⟨a.toArray⟩) (hi : ρ i = .int k ((j : Nat) : Int)) (hu : P.underlying t = some .string) (hj : j < a.length) : VOp P o ρ (.int .u8 ((a.getD j 0).toNat : Int)) :=
  vop_sAt ho hx hi hu hj
theorem vop_sLenL {c : Call} {x : Operand} {t : TypeId} {a : List UInt8} (ho : o.op = .call c) (hc : c.callee = .builtin .len) (ha : c.args = #[x]) (ht : c.argTypes = #[t]) (hu : P.underlying t = some .string) (hx : ρ x = .string ⟨a.toArray⟩) : VOp P o ρ (.int .i64 (a.length : Int)) :=
  vop_strLen ho hc ha ht hu hx
end
section
variable {P : Program} {G nt : Nat} {ops : Array Oper} {l : List Oper} {o : Oper} {ta : Nat → Value} {σ : Mem} {rs : List (Rec × Mem)} {A : Abs} {F : Nat → Option Blk2} {L : List Ent} {K : List (Rec × Mem) → (Nat → Value) → Mem → Prop}
theorem numsF_bytes : ∀ bs : List UInt8, numsF .u8 (bs.map byteV) = some (bs.map fun b => ((b.toNat : Nat) : Int))
  | [] => rfl
  | b :: bs => by
    have h := numsF_bytes bs
    simp only [List.map_cons]
    unfold numsF
    simp only [byteV, h]
    rfl
theorem push_bytes : ∀ (bs : List UInt8) (r : ByteArray), ((bs.map fun b => ((b.toNat : Nat) : Int)).foldl (fun r n => r.push (UInt8.ofNat n.toNat)) r).data.toList = r.data.toList ++ bs
  | [], r => by simp
  | b :: bs, r => by
    rw [List.map_cons, List.foldl_cons, push_bytes bs, ByteArray.data_push, Array.toList_push, List.append_assoc]
    simp
theorem backF_bytes {src dst e : TypeId} (hs : uT P src = some (.slice e)) (he : uT P e = some (.int .u8)) (hd : uT P dst = some .string) (bs : List UInt8) : backF P src dst (bs.map byteV) = some ⟨bs.toArray⟩ := by
  unfold backF
  rw [hs, hd]
  simp only [he, numsF_bytes, Option.map_some]
  congr 1
  apply Go.WideShapes.bytes_inj
  rw [push_bytes]
  simp
theorem RW.back (H : Lies G A F σ L) {src dst e : TypeId} {x : Operand} {v : Value} {bs : List UInt8} (hv : SlF F 1 v bs.length (bs.map byteV)) (h0 : bs ≠ []) (hw : wantedT ops ta o = true) (hk : opndOk G o = true) (ho : o.op = .convert src dst x) (hx : oper2 ta x = v) (hs : uT P src = some (.slice e)) (he : uT P e = some (.int .u8)) (hdt : uT P dst = some .string) (hd : dstOk nt o.dst = true)
    (h : ∀ b p r, F b = some (.row r) → (r.cs.drop p).take bs.length = bs.map byteV → RW G P nt ops l (putO ta o.dst (.string ⟨bs.toArray⟩)) σ ((.load b p (bs.map byteV) (.string ⟨bs.toArray⟩), σ) :: rs) K) : RW G P nt ops (o :: l) ta σ rs K := by
  have hl : bs.length ≠ 0 := fun e => h0 (List.eq_nil_of_length_eq_zero e)
  generalize hn : bs.length = n at hv
  generalize hxs : bs.map byteV = xs at hv
  cases hv with
  | nil => exact absurd hn hl
  | void => exact absurd hn hl
  | some hr hlen hc =>
    rename_i b p c sp r
    obtain ⟨h1, h2⟩ := lop_back (P := P) (cs := xs) (s := ⟨bs.toArray⟩) ho hx (by omega) (by rw [hlen, Nat.mul_one]) (hxs ▸ backF_bytes hs he hdt bs)
    rw [Nat.mul_one] at hc
    refine RW.op (r := .load b p xs (.string ⟨bs.toArray⟩)) hw hk ⟨h1, rfl, h2, r, H.old _ _ hr, fun i y hy => ?_⟩ hd (hxs ▸ h b p r hr (by rw [hn, hxs]; exact hc))
    rw [← hc, List.getElem?_take] at hy
    split at hy
    · rw [List.getElem?_drop] at hy; exact hy
    · cases hy
end
end Go.Proofs.YtmmapljeeccdnaaDoor
namespace Go.Proofs.YtmmapljeeccdnaaDoor
section
variable {P : Program} {o : Oper}
theorem vop_min {ρ : Operand → Value} {c : Call} {x y : Operand} {a b : Int} (ho : o.op = .call c) (hc : c.callee = .builtin .min) (ha : c.args = #[x, y]) (hx : ρ x = .int .i64 a) (hy : ρ y = .int .i64 b) : VOp P o ρ (.int .i64 (min a b)) := fun μ ρc hor => by
  rw [ho] at hor
  have h1 := hor x (by simp [Op.operands, Call.operands, hc, ha])
  have h2 := hor y (by simp [Op.operands, Call.operands, hc, ha])
  rw [hx] at h1
  rw [hy] at h2
  have h1 := flatV_eq rfl h1
  have h2 := flatV_eq rfl h2
  refine ⟨_, .flat _ rfl, fun w => ?_⟩
  rw [show min a b = if b < a then b else a from by split <;> omega]
  unfold execOp
  simp only [ho, Sem.run_bind, resolve, hc, ha, Result.andThen_ok, Sem.run_pure]
  simp [invoke, builtin, Builtin.min_, Builtin.min2, h1, h2]
theorem vop_minE {ρ : Operand → Value} {c : Call} {x y : Operand} {a b n : Int} (h : min a b = n) (ho : o.op = .call c) (hc : c.callee = .builtin .min) (ha : c.args = #[x, y]) (hx : ρ x = .int .i64 a) (hy : ρ y = .int .i64 b) : VOp P o ρ (.int .i64 n) := h ▸ vop_min ho hc ha hx hy
end
end Go.Proofs.YtmmapljeeccdnaaDoor
namespace Go.Proofs.YtmmapljeeccdnaaDoor
set_option maxRecDepth 100000
section
variable {P : Program} {G nt : Nat} {ops : Array Oper} {l : List Oper} {o : Oper} {ta : Nat → Value} {σ : Mem} {rs : List (Rec × Mem)} {A : Abs} {F : Nat → Option Blk2} {L : List Ent} {K : List (Rec × Mem) → (Nat → Value) → Mem → Prop}
theorem RW.appB (H : Lies G A F σ L) (k j : Nat) {c : Call} {s_ x_ : Operand} {t u e e2 s n l0 b0 b : Nat} {r0 r : Row} (hw : wantedT ops ta o = true) (hk : opndOk G o = true) (ho : o.op = .call c) (hc : c.callee = .builtin .append) (ha : c.args = #[s_, x_]) (ht : c.argTypes = #[t, u]) (hsv : oper2 ta s_ = .slice (some ⟨b0, 0, none⟩) l0 l0) (hxv : oper2 ta x_ = .slice (some ⟨b, 0, none⟩) n n)
    (hr0 : lookL L k = some (.at_ b0 (.row r0))) (hr : lookL L j = some (.at_ b (.row r))) (htt : uT P t = some (.slice e)) (huu : uT P u = some (.slice e2)) (hi : infoB P e s 512 = true) (hs0 : 0 < s) (hn : 0 < n) (hl0 : 0 < l0) (hrl0 : r0.cs.length = l0 * s) (hrl : r.cs.length = n * s) (hb : l0 + n ≤ 1000000) (hd : dstOk nt o.dst = true)
    (h : ∀ σ' v', Lies G A F σ' (.sl e s v' (l0 + n) (r0.cs ++ r.cs) :: L) → RW G P nt ops l (putO ta o.dst v') σ' ((.eff v', σ) :: rs) K) : RW G P nt ops (o :: l) ta σ rs K := by
  obtain ⟨i, z, h1, h2, h3, h4, h5⟩ := infoB_ok hi
  have hrow0 := H.get k hr0
  have hrow := H.get j hr
  have hsrc : srcG (.slice e2) i z σ (.slice (some ⟨b, 0, none⟩) n n) = some (n, r.cs) := by
    rw [show srcG (.slice e2) i z σ (.slice (some ⟨b, 0, none⟩) n n) = srcF σ i.size (.slice (some ⟨b, 0, none⟩) n n) from rfl]
    unfold srcF
    rw [h4]
    simp only [if_neg (show ¬ n = 0 by omega), hrow]
    rw [if_pos (by omega), List.drop_zero, ← hrl, List.take_length]
  have hmul : (l0 + n) * i.bytes ≤ 1000000 * 512 := Nat.mul_le_mul hb h5
  have k1 : appendF G P σ t u (.slice (some ⟨b0, 0, none⟩) l0 l0) (.slice (some ⟨b, 0, none⟩) n n) = some (.slice (some ⟨σ.next, 0, some s⟩) (l0 + n) (l0 + n), .push (.row ⟨r0.cs ++ r.cs, e, true⟩)) := by
    unfold appendF
    rw [htt, huu]
    simp only [h1, h2]
    rw [if_pos ⟨by rw [h3], by omega⟩, hsrc]
    simp only [if_neg (show ¬ n = 0 by omega), hrow0]
    rw [if_neg (by omega), if_pos ⟨by omega, by omega, by rw [h4]; omega⟩, List.drop_zero, h4, ← hrl0, List.take_length]
  rw [← hsv, ← hxv] at k1
  refine RW.append hw hk ho hc ha ht k1 hd (h _ _ ?_)
  refine Lies.grown (H.nilSl e s) 0 rfl (.row H.gn get_push rfl (by rw [List.length_append, hrl0, hrl, Nat.add_mul]) (Nat.le_refl _) (List.take_of_length_le (by rw [List.length_append, hrl0, hrl, Nat.add_mul]; exact Nat.le_refl _))) (Nat.le_succ _) rfl (fun b y hy _ => get_push_old hy) fun b hb => ?_
  cases hb
  exact .inr (Nat.le_refl _)
theorem RW.backL (H : Lies G A F σ L) (k : Nat) {src dst e : TypeId} {x : Operand} {b n t : Nat} {g : Bool} {bs : List UInt8} (hn : bs.length = n) (h0 : bs ≠ []) (hw : wantedT ops ta o = true) (hk : opndOk G o = true) (ho : o.op = .convert src dst x) (hx : oper2 ta x = .slice (some ⟨b, 0, none⟩) n n) (hr : lookL L k = some (.at_ b (.row ⟨bs.map byteV, t, g⟩))) (hs : uT P src = some (.slice e)) (he : uT P e = some (.int .u8)) (hdt : uT P dst = some .string) (hd : dstOk nt o.dst = true)
    (h : RW G P nt ops l (putO ta o.dst (.string ⟨bs.toArray⟩)) σ ((.load b 0 (bs.map byteV) (.string ⟨bs.toArray⟩), σ) :: rs) K) : RW G P nt ops (o :: l) ta σ rs K := by
  have hl : bs.length ≠ 0 := fun e => h0 (List.eq_nil_of_length_eq_zero e)
  obtain ⟨h1, h2⟩ := lop_back (P := P) (cs := bs.map byteV) (s := ⟨bs.toArray⟩) ho hx (by omega) (by rw [List.length_map, hn]) (backF_bytes hs he hdt bs)
  exact RW.op (r := .load b 0 (bs.map byteV) (.string ⟨bs.toArray⟩)) hw hk ⟨h1, rfl, h2, _, H.get k hr, fun i y hy => by rw [Nat.zero_add]; exact hy⟩ hd h
theorem vop_backN {ρ : Operand → Value} {src dst e : TypeId} {x : Operand} (ho : o.op = .convert src dst x) (hx : ρ x = .slice none 0 0) (hs : P.underlying src = some (.slice e)) (he : P.underlying e = some (.int .u8)) (hd : P.underlying dst = some .string) : VOp P o ρ (.string ⟨#[]⟩) := fun μ ρc hor => by
  rw [ho] at hor
  have hv := hor x (by simp [Op.operands])
  rw [hx] at hv
  have hv := flatV_eq rfl hv
  refine ⟨_, .flat _ rfl, fun w => ?_⟩
  unfold execOp
  simp only [ho, hv, Sem.run_bind, run_convert_bytes_string w src dst e _ _ _ hs he hd, Conv.bytesToString, Sem.run_pure, Result.andThen_ok]
  rfl
theorem RW.strG {K : (Nat → Value) → Mem → Prop} (H : Lies G A F σ L) (k : Nat) {src dst e e0 : TypeId} {x : Operand} {v : Value} {bs : List UInt8} (hl : lookL L k = some (.sl e0 1 v bs.length (bs.map byteV))) (hw : wantedT ops ta o = true) (hk : opndOk G o = true) (ho : o.op = .convert src dst x) (hx : oper2 ta x = v) (hs : uT P src = some (.slice e)) (he : uT P e = some (.int .u8)) (hdt : uT P dst = some .string) (hs2 : P.underlying src = some (.slice e)) (he2 : P.underlying e = some (.int .u8)) (hdt2 : P.underlying dst = some .string) (hd : dstOk nt o.dst = true)
    (h : ∀ rs', RW G P nt ops l (putO ta o.dst (.string ⟨bs.toArray⟩)) σ rs' fun _ => K) : RW G P nt ops (o :: l) ta σ rs fun _ => K := by
  have hg := H.sl k hl
  generalize hn : bs.length = n at hg
  generalize hxs : bs.map byteV = xs at hg
  cases hg with
  | nil =>
    obtain rfl := List.eq_nil_of_length_eq_zero hn
    exact RW.vop hw hk (vop_backN ho hx hs2 he2 hdt2) hd (h _)
  | @row q _ c r _ hq hr hte hc hle hx0 =>
    by_cases h0 : bs = []
    · subst h0
      obtain rfl : n = 0 := hn.symm
      exact RW.vop hw hk (vop_back0 (s := ⟨#[]⟩) ho hx (backF_bytes hs he hdt [])) hd (h _)
    · have hl0 : bs.length ≠ 0 := fun e => h0 (List.eq_nil_of_length_eq_zero e)
      obtain ⟨h1, h2⟩ := lop_back (P := P) (cs := bs.map byteV) (s := ⟨bs.toArray⟩) ho hx (by omega) (by rw [List.length_map, hn]) (backF_bytes hs he hdt bs)
      refine RW.op (r := .load q 0 (bs.map byteV) (.string ⟨bs.toArray⟩)) hw hk ⟨h1, rfl, h2, r, hr, fun i y hy => ?_⟩ hd (h _)
      rw [Nat.zero_add]
      rw [hxs, ← hx0, List.getElem?_take] at hy
      split at hy
      · exact hy
      · cases hy
end
end Go.Proofs.YtmmapljeeccdnaaDoor
namespace Go.Proofs.YtmmapljeeccdnaaDoor
set_option maxRecDepth 100000
noncomputable def k0 : Kn := noK rowsU
theorem k0_right {G : Nat} : k0.Right G Tryd.prog := noK_right
end Go.Proofs.YtmmapljeeccdnaaDoor
namespace Go.Proofs.YtmmapljeeccdnaaDoor
set_option maxRecDepth 1000000
theorem known_run2 : (match doCall 16 Tryd.prog (ev 16 Tryd.prog k0 3000) 5 [].toArray (startE 16 k0.rows) with | some (u, _) => eqV 3 u (.bool true) | _ => false) = true := by kernel_rfl
end Go.Proofs.YtmmapljeeccdnaaDoor
namespace Go.Proofs.YtmmapljeeccdnaaDoor
open Go.RowKit
set_option maxRecDepth 100000
theorem rowsU_nodup : (rowsU.map (·.1)).Nodup := by unfold rowsU; simp
theorem rowsU_low64 : ∀ g cs, (g, cs) ∈ rowsU → g < 64 := fun g cs hm => Nat.lt_of_lt_of_le (rowsU_low g cs hm) (by decide)
theorem s_known (G : Nat) (hG : 64 ≤ G) (σ : Mem) (hR : RowsAt rowsU σ) : SCall G Tryd.prog 5 #[] σ (.bool true) σ :=
  closed_scall k0_right known_run2 rfl rfl rowsU_low (fun g cs hm => by have := rowsU_low g cs hm; omega) rowsU_flat σ hR
theorem keepsR {rs : List ARow} {σ' : Mem} (hR : RowsAt rowsU (argMem rowsU rs)) (h : ∀ b y, (argMem rowsU rs).get b = some y → σ'.get b = some y) : RowsAt rowsU σ' := fun g cs hm => by obtain ⟨t, b, hr⟩ := hR g cs hm; exact ⟨t, b, h _ _ hr⟩
end Go.Proofs.YtmmapljeeccdnaaDoor
