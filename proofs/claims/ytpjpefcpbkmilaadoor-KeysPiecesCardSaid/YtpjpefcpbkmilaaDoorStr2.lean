/-
  Open strings in the second memory: held against one another, cut, their bytes one by one; bytes made a string. Over any program. Conditions: none.
-/
import Derived.Test.YtpjpefcpbkmilaaDoorK1
import Derived.Test.YtpjpefcpbkmilaaDoorS2
import Derived.Laws.Slices
import Derived.Laws.Strings
import Derived.WideShapes
namespace Go.Proofs.YtpjpefcpbkmilaaDoor
set_option maxRecDepth 100000
section
variable {P : Program} {o : Oper} {ρ : Operand → Value}
theorem vop_back0L {src dst : TypeId} {x : Operand} {b p c n : Nat} {sp : Option Nat} {l : List UInt8} (hn : n = 0) (hl : l = []) (ho : o.op = .convert src dst x) (hx : ρ x = .slice (some ⟨b, p, sp⟩) n c) (h : backF P src dst [] = some ⟨#[]⟩) : VOp P o ρ (.string ⟨l.toArray⟩) := by
  subst hn
  subst hl
  exact vop_back0 ho hx h
theorem vop_sEq {t t' : TypeId} {x y : Operand} {a b : ByteArray} {r : Bool} (ho : o.op = .binOp .eql t x y t') (hx : ρ x = .string a) (hy : ρ y = .string b) (hr : (a.data.toList == b.data.toList) = r) : VOp P o ρ (.bool r) := fun μ ρc hor => by
  rw [ho] at hor
  have h1 := hor x (by simp [Op.operands])
  have h2 := hor y (by simp [Op.operands])
  rw [hx] at h1
  rw [hy] at h2
  have h1 := flatV_eq rfl h1
  have h2 := flatV_eq rfl h2
  refine ⟨_, .flat _ rfl, fun w => ?_⟩
  unfold execOp
  simp only [ho, h1, h2]
  simp only [eqGuard, binOp, Op.stringOp, ByteArray.toList_eq, hr]
  rfl
theorem vop_sNe {t t' : TypeId} {x y : Operand} {a b : ByteArray} {r : Bool} (ho : o.op = .binOp .neq t x y t') (hx : ρ x = .string a) (hy : ρ y = .string b) (hr : (!(a.data.toList == b.data.toList)) = r) : VOp P o ρ (.bool r) := fun μ ρc hor => by
  rw [ho] at hor
  have h1 := hor x (by simp [Op.operands])
  have h2 := hor y (by simp [Op.operands])
  rw [hx] at h1
  rw [hy] at h2
  have h1 := flatV_eq rfl h1
  have h2 := flatV_eq rfl h2
  refine ⟨_, .flat _ rfl, fun w => ?_⟩
  unfold execOp
  simp only [ho, h1, h2]
  simp only [eqGuard, binOp, Op.stringOp, ByteArray.toList_eq, hr]
  rfl
theorem vop_sHead {t : TypeId} {x h : Operand} {k : IntKind} {s : ByteArray} {j : Nat} (ho : o.op = .slice t x none (some h) none) (hx : ρ x = .string s) (hh : ρ h = .int k ((j : Nat) : Int)) (hu : P.underlying t = some .string) (hj : j ≤ s.size) : VOp P o ρ (.string (s.extract 0 j)) := fun μ ρc hor => by
  rw [ho] at hor
  have h1 := hor x (by simp [Op.operands])
  have h2 := hor h (by simp [Op.operands])
  rw [hx] at h1
  rw [hh] at h2
  have h1 := flatV_eq rfl h1
  have h2 := flatV_eq rfl h2
  refine ⟨_, .flat _ rfl, fun w => ?_⟩
  unfold execOp
  simp only [ho, h1, h2, Instr.sliceAt, Option.map_some, Option.map_none, Sem.run_bind, run_underlying hu, Result.andThen_ok]
  rw [run_slice_string_h w t s hu k ((j : Nat) : Int) (by omega) (by omega)]
  simp
theorem vop_sTail {t : TypeId} {x l : Operand} {k : IntKind} {s : ByteArray} {j : Nat} (ho : o.op = .slice t x (some l) none none) (hx : ρ x = .string s) (hh : ρ l = .int k ((j : Nat) : Int)) (hu : P.underlying t = some .string) (hj : j ≤ s.size) : VOp P o ρ (.string (s.extract j s.size)) := fun μ ρc hor => by
  rw [ho] at hor
  have h1 := hor x (by simp [Op.operands])
  have h2 := hor l (by simp [Op.operands])
  rw [hx] at h1
  rw [hh] at h2
  have h1 := flatV_eq rfl h1
  have h2 := flatV_eq rfl h2
  refine ⟨_, .flat _ rfl, fun w => ?_⟩
  unfold execOp
  simp only [ho, h1, h2, Instr.sliceAt, Option.map_some, Option.map_none, Sem.run_bind, run_underlying hu, Result.andThen_ok]
  rw [run_slice_string_l w t s hu k ((j : Nat) : Int) (by omega) (by omega)]
  simp
theorem vop_sAt {t : TypeId} {x i : Operand} {k : IntKind} {s : ByteArray} {j : Nat} (ho : o.op = .index t x i) (hx : ρ x = .string s) (hi : ρ i = .int k ((j : Nat) : Int)) (hu : P.underlying t = some .string) (hj : j < s.size) : VOp P o ρ (.int .u8 ((s.data.toList.getD j 0).toNat : Int)) := fun μ ρc hor => by
  rw [ho] at hor
  have h1 := hor x (by simp [Op.operands])
  have h2 := hor i (by simp [Op.operands])
  rw [hx] at h1
  rw [hi] at h2
  have h1 := flatV_eq rfl h1
  have h2 := flatV_eq rfl h2
  refine ⟨_, .flat _ rfl, fun w => ?_⟩
  have hs : (s[j]'hj) = s.data.toList.getD j 0 := by
    have hz : j < s.data.toList.length := hj
    rw [List.getD_eq_getElem?_getD, List.getElem?_eq_getElem hz]
    rfl
  unfold execOp
  simp only [ho, h1, h2, Sem.run_bind]
  rw [run_index_string w t s k _ hu, dif_pos (by omega)]
  simp [hs]
theorem ba_append (a b : List UInt8) : (⟨a.toArray⟩ ++ ⟨b.toArray⟩ : ByteArray) = ⟨(a ++ b).toArray⟩ := by
  apply Go.WideShapes.bytes_inj
  rw [ByteArray.data_append, Array.toList_append]
theorem ba_head {a : List UInt8} {j : Nat} : (⟨a.toArray⟩ : ByteArray).extract 0 j = ⟨(a.take j).toArray⟩ := by
  apply Go.WideShapes.bytes_inj
  rw [ByteArray.data_extract, Array.toList_extract]
  simp [List.extract]
theorem ba_tail {a : List UInt8} {j : Nat} : (⟨a.toArray⟩ : ByteArray).extract j (⟨a.toArray⟩ : ByteArray).size = ⟨(a.drop j).toArray⟩ := by
  apply Go.WideShapes.bytes_inj
  rw [ByteArray.data_extract, Array.toList_extract]
  show (a.extract j a.length) = a.drop j
  rw [List.extract_eq_take_drop]
  exact List.take_of_length_le (by rw [List.length_drop]; exact Nat.le_refl _)
theorem vop_sAddL {t t' : TypeId} {x y : Operand} {a b : List UInt8} (ho : o.op = .binOp .add t x y t') (hx : ρ x = .string ⟨a.toArray⟩) (hy : ρ y = .string ⟨b.toArray⟩) (hs : a.length + b.length ≤ 1000000000000) : VOp P o ρ (.string ⟨(a ++ b).toArray⟩) :=
  ba_append a b ▸ vop_strAdd ho hx hy hs
theorem vop_sHeadL {t : TypeId} {x h : Operand} {k : IntKind} {a : List UInt8} {j : Nat} (ho : o.op = .slice t x none (some h) none) (hx : ρ x = .string ⟨a.toArray⟩) (hh : ρ h = .int k ((j : Nat) : Int)) (hu : P.underlying t = some .string) (hj : j ≤ a.length) : VOp P o ρ (.string ⟨(a.take j).toArray⟩) :=
  ba_head ▸ vop_sHead ho hx hh hu hj
theorem vop_sTailL {t : TypeId} {x l : Operand} {k : IntKind} {a : List UInt8} {j : Nat} (ho : o.op = .slice t x (some l) none none) (hx : ρ x = .string ⟨a.toArray⟩) (hh : ρ l = .int k ((j : Nat) : Int)) (hu : P.underlying t = some .string) (hj : j ≤ a.length) : VOp P o ρ (.string ⟨(a.drop j).toArray⟩) :=
  ba_tail ▸ vop_sTail ho hx hh hu hj
theorem vop_sAtL {t : TypeId} {x i : Operand} {k : IntKind} {a : List UInt8} {j : Nat} (ho : o.op = .index t x i) (hx : ρ x = .string ⟨a.toArray⟩) (hi : ρ i = .int k ((j : Nat) : Int)) (hu : P.underlying t = some .string) (hj : j < a.length) : VOp P o ρ (.int .u8 ((a.getD j 0).toNat : Int)) :=
  vop_sAt ho hx hi hu hj
theorem vop_sAtE {t : TypeId} {x i : Operand} {k : IntKind} {a : List UInt8} {j n : Nat} (hv : (a.getD j 0).toNat = n) (ho : o.op = .index t x i) (hx : ρ x = .string ⟨a.toArray⟩) (hi : ρ i = .int k ((j : Nat) : Int)) (hu : P.underlying t = some .string) (hj : j < a.length) : VOp P o ρ (.int .u8 ((n : Nat) : Int)) :=
  hv ▸ vop_sAt ho hx hi hu hj
theorem vop_sLenL {c : Call} {x : Operand} {t : TypeId} {a : List UInt8} (ho : o.op = .call c) (hc : c.callee = .builtin .len) (ha : c.args = #[x]) (ht : c.argTypes = #[t]) (hu : P.underlying t = some .string) (hx : ρ x = .string ⟨a.toArray⟩) : VOp P o ρ (.int .i64 (a.length : Int)) :=
  vop_strLen ho hc ha ht hu hx
end
section
variable {P : Program} {G nt : Nat} {ops : Array Oper} {l : List Oper} {o : Oper} {ta : Nat → Value} {σ : Mem} {rs : List (Rec × Mem)} {A : Abs} {F : Nat → Option Blk2} {L : List Ent} {K : List (Rec × Mem) → (Nat → Value) → Mem → Prop}
theorem numsF_bytes : ∀ bs : List UInt8, numsF .u8 (bs.map byteV) = some (bs.map fun b => ((b.toNat : Nat) : Int))
  | [] => rfl
  | b :: bs => by
    have h := numsF_bytes bs
    simp only [List.map_cons]
    unfold numsF
    simp only [byteV, h]
    rfl
theorem push_bytes : ∀ (bs : List UInt8) (r : ByteArray), ((bs.map fun b => ((b.toNat : Nat) : Int)).foldl (fun r n => r.push (UInt8.ofNat n.toNat)) r).data.toList = r.data.toList ++ bs
  | [], r => by simp
  | b :: bs, r => by
    rw [List.map_cons, List.foldl_cons, push_bytes bs, ByteArray.data_push, Array.toList_push, List.append_assoc]
    simp
theorem backF_bytes {src dst e : TypeId} (hs : uT P src = some (.slice e)) (he : uT P e = some (.int .u8)) (hd : uT P dst = some .string) (bs : List UInt8) : backF P src dst (bs.map byteV) = some ⟨bs.toArray⟩ := by
  unfold backF
  rw [hs, hd]
  simp only [he, numsF_bytes, Option.map_some]
  congr 1
  apply Go.WideShapes.bytes_inj
  rw [push_bytes]
  simp
theorem RW.back (H : Lies G A F σ L) {src dst e : TypeId} {x : Operand} {v : Value} {bs : List UInt8} (hv : SlF F 1 v bs.length (bs.map byteV)) (h0 : bs ≠ []) (hw : wantedT ops ta o = true) (hk : opndOk G o = true) (ho : o.op = .convert src dst x) (hx : oper2 ta x = v) (hs : uT P src = some (.slice e)) (he : uT P e = some (.int .u8)) (hdt : uT P dst = some .string) (hd : dstOk nt o.dst = true)
    (h : ∀ b p r, F b = some (.row r) → (r.cs.drop p).take bs.length = bs.map byteV → RW G P nt ops l (putO ta o.dst (.string ⟨bs.toArray⟩)) σ ((.load b p (bs.map byteV) (.string ⟨bs.toArray⟩), σ) :: rs) K) : RW G P nt ops (o :: l) ta σ rs K := by
  have hl : bs.length ≠ 0 := fun e => h0 (List.eq_nil_of_length_eq_zero e)
  generalize hn : bs.length = n at hv
  generalize hxs : bs.map byteV = xs at hv
  cases hv with
  | nil => exact absurd hn hl
  | void => exact absurd hn hl
  | some hr hlen hc =>
    rename_i b p c sp r
    obtain ⟨h1, h2⟩ := lop_back (P := P) (cs := xs) (s := ⟨bs.toArray⟩) ho hx (by omega) (by rw [hlen, Nat.mul_one]) (hxs ▸ backF_bytes hs he hdt bs)
    rw [Nat.mul_one] at hc
    refine RW.op (r := .load b p xs (.string ⟨bs.toArray⟩)) hw hk ⟨h1, rfl, h2, r, H.old _ _ hr, fun i y hy => ?_⟩ hd (hxs ▸ h b p r hr (by rw [hn, hxs]; exact hc))
    rw [← hc, List.getElem?_take] at hy
    split at hy
    · rw [List.getElem?_drop] at hy; exact hy
    · cases hy
end
theorem slk_mid {F : Nat → Option Blk2} {P : Program} {v : Value} {n i j t e : Nat} {xs : List Value} (h : SlK F 1 v n xs) (h0 : 0 < n) (ht : uT P t = some (.slice e)) (hz : sizeT P e = some 1) (hi : i ≤ j) (hj : j ≤ n) {a b : Int} (ha : a = (i : Int)) (hb : b = (j : Int)) :
    ∃ q p sp c, sliceF P t v (some (.int .i64 a)) (some (.int .i64 b)) none = some (.slice (some ⟨q, p, sp⟩) (j - i) c) ∧ SlK F 1 (.slice (some ⟨q, p, sp⟩) (j - i) c) (j - i) ((xs.drop i).take (j - i)) := by
  subst ha
  subst hb
  cases h with
  | nil => exact absurd h0 (Nat.lt_irrefl _)
  | some hr hx hc hle hsp =>
    rename_i b p c sp r
    have h1 : boundF (some (.int .i64 ((j : Nat) : Int))) n c = some j := by
      simp only [boundF]
      rw [if_pos (by omega), Int.toNat_natCast]
    have h2 : boundF (some (.int .i64 ((i : Nat) : Int))) 0 j = some i := by
      simp only [boundF]
      rw [if_pos (by omega), Int.toNat_natCast]
    rw [Nat.mul_one] at hx hc
    have hlen : ((xs.drop i).take (j - i)).length = (j - i) * 1 := by
      rw [List.length_take, List.length_drop]
      omega
    have hone : ((r.cs.drop (p + i * 1)).take ((j - i) * 1)) = (xs.drop i).take (j - i) := by
      have e1 : ((r.cs.drop p).take n).drop i = xs.drop i := by rw [hc]
      rw [List.drop_take, List.drop_drop] at e1
      rw [Nat.mul_one, Nat.mul_one, ← e1, List.take_take, Nat.min_eq_left (by omega)]
    by_cases hci : c = i
    · have e0 : j - i = 0 := by omega
      refine ⟨b, p, sp, c - i, ?_, ?_⟩
      · simp only [sliceF, ht, hz, h1, h2]
        rcases hsp with rfl | rfl
        · simp only []
          rw [if_pos hci]
        · simp only []
          rw [if_pos ⟨trivial, by omega⟩, if_pos hci]
      · rw [e0] at hlen ⊢
        exact .some hr hlen (by rw [Nat.zero_mul, List.take_zero, List.take_zero]) (Nat.zero_le _) hsp
    · refine ⟨b, p + i * 1, sp, c - i, ?_, ?_⟩
      · simp only [sliceF, ht, hz, h1, h2]
        rcases hsp with rfl | rfl
        · simp only []
          rw [if_neg hci]
        · simp only []
          rw [if_pos ⟨trivial, by omega⟩, if_neg hci]
      · exact .some hr hlen hone (by omega) hsp
end Go.Proofs.YtpjpefcpbkmilaaDoor
