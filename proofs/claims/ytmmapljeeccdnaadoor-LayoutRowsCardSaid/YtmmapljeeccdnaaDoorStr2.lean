/-
  Open strings in the second memory: held against one another, cut, their bytes one by one; bytes made a string. Over any program. Conditions: none.
-/
import Derived.Test.YtmmapljeeccdnaaDoorStr
import Derived.Test.YtmmapljeeccdnaaDoorK1
import Derived.Test.YtmmapljeeccdnaaDoorS2
import Derived.Laws.Slices
import Derived.Laws.Strings
import Derived.WideShapes
namespace Go.Proofs.YtmmapljeeccdnaaDoor
set_option maxRecDepth 100000
section
variable {P : Program} {o : Oper} {ρ : Operand → Value}
theorem vop_sTail {t : TypeId} {x l : Operand} {k : IntKind} {s : ByteArray} {j : Nat} (ho : o.op = .slice t x (some l) none none) (hx : ρ x = .string s) (hh : ρ l = .int k ((j : Nat) : Int)) (hu : P.underlying t = some .string) (hj : j ≤ s.size) : VOp P o ρ (.string (s.extract j s.size)) := fun μ ρc hor => by
 rw [ho] at hor
 have h1 := hor x (by simp [Op.operands])
 have h2 := hor l (by simp [Op.operands])
 rw [hx] at h1
 rw [hh] at h2
 have h1 := flatV_eq rfl h1
 have h2 := flatV_eq rfl h2
 refine ⟨_, .flat _ rfl, fun w => ?_⟩
 unfold execOp
 simp only [ho, h1, h2, Instr.sliceAt, Option.map_some, Option.map_none, Sem.run_bind, run_underlying hu, Result.andThen_ok]
 rw [run_slice_string_l w t s hu k ((j : Nat) : Int) (by omega) (by omega)]
 simp
theorem ba_tail {a : List UInt8} {j : Nat} : (⟨a.toArray⟩ : ByteArray).extract j (⟨a.toArray⟩ : ByteArray).size = ⟨(a.drop j).toArray⟩ := by
 apply Go.WideShapes.bytes_inj
 rw [ByteArray.data_extract, Array.toList_extract]
 show (a.extract j a.length) = a.drop j
 rw [List.extract_eq_take_drop]
 exact List.take_of_length_le (by rw [List.length_drop]; exact Nat.le_refl _)
theorem vop_sTailL {t : TypeId} {x l : Operand} {k : IntKind} {a : List UInt8} {j : Nat} (ho : o.op = .slice t x (some l) none none) (hx : ρ x = .string ⟨a.toArray⟩) (hh : ρ l = .int k ((j : Nat) : Int)) (hu : P.underlying t = some .string) (hj : j ≤ a.length) : VOp P o ρ (.string ⟨(a.drop j).toArray⟩) :=
 ba_tail ▸ vop_sTail ho hx hh hu hj
theorem vop_sLenL {c : Call} {x : Operand} {t : TypeId} {a : List UInt8} (ho : o.op = .call c) (hc : c.callee = .builtin .len) (ha : c.args = #[x]) (ht : c.argTypes = #[t]) (hu : P.underlying t = some .string) (hx : ρ x = .string ⟨a.toArray⟩) : VOp P o ρ (.int .i64 (a.length : Int)) :=
 vop_strLen ho hc ha ht hu hx
end
section
variable {P : Program} {G nt : Nat} {ops : Array Oper} {l : List Oper} {o : Oper} {ta : Nat → Value} {σ : Mem} {rs : List (Rec × Mem)} {A : Abs} {F : Nat → Option Blk2} {L : List Ent} {K : List (Rec × Mem) → (Nat → Value) → Mem → Prop}
theorem numsF_bytes : ∀ bs : List UInt8, numsF .u8 (bs.map byteV) = some (bs.map fun b => ((b.toNat : Nat) : Int))
 | [] => rfl
 | b :: bs => by
  have h := numsF_bytes bs
  simp only [List.map_cons]
  unfold numsF
  simp only [byteV, h]
  rfl
theorem push_bytes : ∀ (bs : List UInt8) (r : ByteArray), ((bs.map fun b => ((b.toNat : Nat) : Int)).foldl (fun r n => r.push (UInt8.ofNat n.toNat)) r).data.toList = r.data.toList ++ bs
 | [], r => by simp
 | b :: bs, r => by
  rw [List.map_cons, List.foldl_cons, push_bytes bs, ByteArray.data_push, Array.toList_push, List.append_assoc]
  simp
theorem backF_bytes {src dst e : TypeId} (hs : uT P src = some (.slice e)) (he : uT P e = some (.int .u8)) (hd : uT P dst = some .string) (bs : List UInt8) : backF P src dst (bs.map byteV) = some ⟨bs.toArray⟩ := by
 unfold backF
 rw [hs, hd]
 simp only [he, numsF_bytes, Option.map_some]
 congr 1
 apply Go.WideShapes.bytes_inj
 rw [push_bytes]
 simp
theorem RW.back (H : Lies G A F σ L) {src dst e : TypeId} {x : Operand} {v : Value} {bs : List UInt8} (hv : SlF F 1 v bs.length (bs.map byteV)) (h0 : bs ≠ []) (hw : wantedT ops ta o = true) (hk : opndOk G o = true) (ho : o.op = .convert src dst x) (hx : oper2 ta x = v) (hs : uT P src = some (.slice e)) (he : uT P e = some (.int .u8)) (hdt : uT P dst = some .string) (hd : dstOk nt o.dst = true)
    (h : ∀ b p r, F b = some (.row r) → (r.cs.drop p).take bs.length = bs.map byteV → RW G P nt ops l (putO ta o.dst (.string ⟨bs.toArray⟩)) σ ((.load b p (bs.map byteV) (.string ⟨bs.toArray⟩), σ) :: rs) K) : RW G P nt ops (o :: l) ta σ rs K := by
  have hl : bs.length ≠ 0 := fun e => h0 (List.eq_nil_of_length_eq_zero e)
  generalize hn : bs.length = n at hv
  generalize hxs : bs.map byteV = xs at hv
  cases hv with
  | nil => exact absurd hn hl
  | void => exact absurd hn hl
  | some hr hlen hc =>
    rename_i b p c sp r
    obtain ⟨h1, h2⟩ := lop_back (P := P) (cs := xs) (s := ⟨bs.toArray⟩) ho hx (by omega) (by rw [hlen, Nat.mul_one]) (hxs ▸ backF_bytes hs he hdt bs)
    rw [Nat.mul_one] at hc
    refine RW.op (r := .load b p xs (.string ⟨bs.toArray⟩)) hw hk ⟨h1, rfl, h2, r, H.old _ _ hr, fun i y hy => ?_⟩ hd (hxs ▸ h b p r hr (by rw [hn, hxs]; exact hc))
    rw [← hc, List.getElem?_take] at hy
    split at hy
    · rw [List.getElem?_drop] at hy; exact hy
    · cases hy
end
end Go.Proofs.YtmmapljeeccdnaaDoor
