/-
  Strings in the second memory: joined, their length, their bytes in a row of their own. Over any program. Conditions: none.
  Open strings in the second memory: held against one another, cut, their bytes one by one; bytes made a string. Over any program. Conditions: none.
  min of two open numbers. Over any program. Conditions: none.
  awake of the chapter of layout answers true, in the second memory. Conditions: none.
  LayoutKnown answers true, in the second memory. Conditions: none.
  Parts handed to a law; LayoutKnown in the second memory. Conditions: none.
-/
import Derived.Test.YtmmapljeeccdnaaDoorS4
import Derived.Test.YtmmapljeeccdnaaDoorK1
import Derived.Test.YtmmapljeeccdnaaDoorS2
import Derived.Laws.Slices
import Derived.Laws.Strings
import Derived.WideShapes
import Derived.Test.YtmmapljeeccdnaaDoorRowsU
import Derived.KernelRfl
import Derived.Test.YtmmapljeeccdnaaDoorL3
namespace Go.Proofs.YtmmapljeeccdnaaDoor
set_option maxRecDepth 100000
section
variable {P : Program} {o : Oper} {ρ : Operand → Value}
theorem vop_strLen {c : Call} {x : Operand} {t : TypeId} {a : ByteArray} (ho : o.op = .call c) (hc : c.callee = .builtin .len) (ha : c.args = #[x]) (ht : c.argTypes = #[t]) (hu : P.underlying t = some .string) (hx : ρ x = .string a) : VOp P o ρ (.int .i64 a.size) := fun μ ρc hor => by
  rw [ho] at hor
  have h1 := hor x (by simp [Op.operands, Call.operands, hc, ha])
  rw [hx] at h1
  have h1 := flatV_eq rfl h1
  refine ⟨_, .flat _ rfl, fun w => ?_⟩
  unfold execOp
  simp only [ho, Sem.run_bind, resolve, hc, ha, ht, Result.andThen_ok, Sem.run_pure]
  simp [invoke, builtin, Builtin.len_, run_underlying hu, h1, goInt]
end
section
variable {P : Program} {G nt : Nat} {ops : Array Oper} {l : List Oper} {o : Oper} {ta : Nat → Value} {σ : Mem} {rs : List (Rec × Mem)} {A : Abs} {F : Nat → Option Blk2} {L : List Ent} {K : List (Rec × Mem) → (Nat → Value) → Mem → Prop}
theorem RW.conv (H : Lies G A F σ L) {src dst e : TypeId} {x : Operand} {s : ByteArray} {cs : List Value} (hw : wantedT ops ta o = true) (hk : opndOk G o = true) (ho : o.op = .convert src dst x) (hx : oper2 ta x = .string s) (hc : convF P src dst s = some (e, cs)) (hd : dstOk nt o.dst = true)
    (h : ∀ σ' v', Lies G A F σ' (.sl e 1 v' cs.length cs :: L) → RW G P nt ops l (putO ta o.dst v') σ' ((.eff v', σ) :: rs) K) : RW G P nt ops (o :: l) ta σ rs K := by
  refine RW.eff hw hk (eop_conv ho hx hc) hd (h _ _ ?_)
  have g : Grow σ (σ.push (.row ⟨cs, e, true⟩)) := ⟨fun b y hy => get_push_old hy, Nat.le_succ _, rfl⟩
  exact H.addSl g (.row H.gn get_push rfl (by rw [Nat.mul_one]) (Nat.le_refl _) (List.take_of_length_le (by rw [Nat.mul_one]; exact Nat.le_refl _))) fun c hc => by cases hc; exact Nat.le_refl _
end
end Go.Proofs.YtmmapljeeccdnaaDoor
namespace Go.Proofs.YtmmapljeeccdnaaDoor
set_option maxRecDepth 100000
section
variable {P : Program} {o : Oper} {ρ : Operand → Value}
theorem vop_sLenL {c : Call} {x : Operand} {t : TypeId} {a : List UInt8} (ho : o.op = .call c) (hc : c.callee = .builtin .len) (ha : c.args = #[x]) (ht : c.argTypes = #[t]) (hu : P.underlying t = some .string) (hx : ρ x = .string ⟨a.toArray⟩) : VOp P o ρ (.int .i64 (a.length : Int)) :=
  vop_strLen ho hc ha ht hu hx
end
section
variable {P : Program} {G nt : Nat} {ops : Array Oper} {l : List Oper} {o : Oper} {ta : Nat → Value} {σ : Mem} {rs : List (Rec × Mem)} {A : Abs} {F : Nat → Option Blk2} {L : List Ent} {K : List (Rec × Mem) → (Nat → Value) → Mem → Prop}
theorem numsF_bytes : ∀ bs : List UInt8, numsF .u8 (bs.map byteV) = some (bs.map fun b => ((b.toNat : Nat) : Int))
  | [] => rfl
  | b :: bs => by
    have h := numsF_bytes bs
    simp only [List.map_cons]
    unfold numsF
    simp only [byteV, h]
    rfl
theorem push_bytes : ∀ (bs : List UInt8) (r : ByteArray), ((bs.map fun b => ((b.toNat : Nat) : Int)).foldl (fun r n => r.push (UInt8.ofNat n.toNat)) r).data.toList = r.data.toList ++ bs
  | [], r => by simp
  | b :: bs, r => by
    rw [List.map_cons, List.foldl_cons, push_bytes bs, ByteArray.data_push, Array.toList_push, List.append_assoc]
    simp
theorem backF_bytes {src dst e : TypeId} (hs : uT P src = some (.slice e)) (he : uT P e = some (.int .u8)) (hd : uT P dst = some .string) (bs : List UInt8) : backF P src dst (bs.map byteV) = some ⟨bs.toArray⟩ := by
  unfold backF
  rw [hs, hd]
  simp only [he, numsF_bytes, Option.map_some]
  congr 1
  apply Go.WideShapes.bytes_inj
  rw [push_bytes]
  simp
theorem RW.back (H : Lies G A F σ L) {src dst e : TypeId} {x : Operand} {v : Value} {bs : List UInt8} (hv : SlF F 1 v bs.length (bs.map byteV)) (h0 : bs ≠ []) (hw : wantedT ops ta o = true) (hk : opndOk G o = true) (ho : o.op = .convert src dst x) (hx : oper2 ta x = v) (hs : uT P src = some (.slice e)) (he : uT P e = some (.int .u8)) (hdt : uT P dst = some .string) (hd : dstOk nt o.dst = true)
    (h : ∀ b p r, F b = some (.row r) → (r.cs.drop p).take bs.length = bs.map byteV → RW G P nt ops l (putO ta o.dst (.string ⟨bs.toArray⟩)) σ ((.load b p (bs.map byteV) (.string ⟨bs.toArray⟩), σ) :: rs) K) : RW G P nt ops (o :: l) ta σ rs K := by
  have hl : bs.length ≠ 0 := fun e => h0 (List.eq_nil_of_length_eq_zero e)
  generalize hn : bs.length = n at hv
  generalize hxs : bs.map byteV = xs at hv
  cases hv with
  | nil => exact absurd hn hl
  | void => exact absurd hn hl
  | some hr hlen hc =>
    rename_i b p c sp r
    obtain ⟨h1, h2⟩ := lop_back (P := P) (cs := xs) (s := ⟨bs.toArray⟩) ho hx (by omega) (by rw [hlen, Nat.mul_one]) (hxs ▸ backF_bytes hs he hdt bs)
    rw [Nat.mul_one] at hc
    refine RW.op (r := .load b p xs (.string ⟨bs.toArray⟩)) hw hk ⟨h1, rfl, h2, r, H.old _ _ hr, fun i y hy => ?_⟩ hd (hxs ▸ h b p r hr (by rw [hn, hxs]; exact hc))
    rw [← hc, List.getElem?_take] at hy
    split at hy
    · rw [List.getElem?_drop] at hy; exact hy
    · cases hy
end
end Go.Proofs.YtmmapljeeccdnaaDoor
namespace Go.Proofs.YtmmapljeeccdnaaDoor
section
variable {P : Program} {o : Oper}
end
end Go.Proofs.YtmmapljeeccdnaaDoor
namespace Go.Proofs.YtmmapljeeccdnaaDoor
set_option maxRecDepth 100000
noncomputable def k0 : Kn := noK rowsU
theorem k0_right {G : Nat} : k0.Right G Tryd.prog := noK_right
end Go.Proofs.YtmmapljeeccdnaaDoor
namespace Go.Proofs.YtmmapljeeccdnaaDoor
set_option maxRecDepth 1000000
theorem known_run2 : (match doCall 16 Tryd.prog (ev 16 Tryd.prog k0 3000) 5 [].toArray (startE 16 k0.rows) with | some (u, _) => eqV 3 u (.bool true) | _ => false) = true := by kernel_rfl
end Go.Proofs.YtmmapljeeccdnaaDoor
namespace Go.Proofs.YtmmapljeeccdnaaDoor
open Go.RowKit
set_option maxRecDepth 100000
theorem rowsU_nodup : (rowsU.map (·.1)).Nodup := by unfold rowsU; simp
theorem rowsU_low64 : ∀ g cs, (g, cs) ∈ rowsU → g < 64 := fun g cs hm => Nat.lt_of_lt_of_le (rowsU_low g cs hm) (by decide)
theorem s_known (G : Nat) (hG : 64 ≤ G) (σ : Mem) (hR : RowsAt rowsU σ) : SCall G Tryd.prog 5 #[] σ (.bool true) σ :=
  closed_scall k0_right known_run2 rfl rfl rowsU_low (fun g cs hm => by have := rowsU_low g cs hm; omega) rowsU_flat σ hR
theorem keepsR {rs : List ARow} {σ' : Mem} (hR : RowsAt rowsU (argMem rowsU rs)) (h : ∀ b y, (argMem rowsU rs).get b = some y → σ'.get b = some y) : RowsAt rowsU σ' := fun g cs hm => by obtain ⟨t, b, hr⟩ := hR g cs hm; exact ⟨t, b, h _ _ hr⟩
end Go.Proofs.YtmmapljeeccdnaaDoor
