/-
  Strings in the second memory: joined, their length, their bytes in a row of their own. Over any program. Conditions: none.
-/
import Derived.Test.YtmmapljeeccdnaaDoorS4
import Derived.Test.YtmmapljeeccdnaaDoorK1
namespace Go.Proofs.YtmmapljeeccdnaaDoor
set_option maxRecDepth 100000
section
variable {P : Program} {o : Oper} {ρ : Operand → Value}
theorem vop_strLen {c : Call} {x : Operand} {t : TypeId} {a : ByteArray} (ho : o.op = .call c) (hc : c.callee = .builtin .len) (ha : c.args = #[x]) (ht : c.argTypes = #[t]) (hu : P.underlying t = some .string) (hx : ρ x = .string a) : VOp P o ρ (.int .i64 a.size) := fun μ ρc hor => by
 rw [ho] at hor
 have h1 := hor x (by simp [Op.operands, Call.operands, hc, ha])
 rw [hx] at h1
 have h1 := flatV_eq rfl h1
 refine ⟨_, .flat _ rfl, fun w => ?_⟩
 unfold execOp
 simp only [ho, Sem.run_bind, resolve, hc, ha, ht, Result.andThen_ok, Sem.run_pure]
 simp [invoke, builtin, Builtin.len_, run_underlying hu, h1, goInt]
end
section
variable {P : Program} {G nt : Nat} {ops : Array Oper} {l : List Oper} {o : Oper} {ta : Nat → Value} {σ : Mem} {rs : List (Rec × Mem)} {A : Abs} {F : Nat → Option Blk2} {L : List Ent} {K : List (Rec × Mem) → (Nat → Value) → Mem → Prop}
theorem RW.conv (H : Lies G A F σ L) {src dst e : TypeId} {x : Operand} {s : ByteArray} {cs : List Value} (hw : wantedT ops ta o = true) (hk : opndOk G o = true) (ho : o.op = .convert src dst x) (hx : oper2 ta x = .string s) (hc : convF P src dst s = some (e, cs)) (hd : dstOk nt o.dst = true)
    (h : ∀ σ' v', Lies G A F σ' (.sl e 1 v' cs.length cs :: L) → RW G P nt ops l (putO ta o.dst v') σ' ((.eff v', σ) :: rs) K) : RW G P nt ops (o :: l) ta σ rs K := by
  refine RW.eff hw hk (eop_conv ho hx hc) hd (h _ _ ?_)
  have g : Grow σ (σ.push (.row ⟨cs, e, true⟩)) := ⟨fun b y hy => get_push_old hy, Nat.le_succ _, rfl⟩
  exact H.addSl g (.row H.gn get_push rfl (by rw [Nat.mul_one]) (Nat.le_refl _) (List.take_of_length_le (by rw [Nat.mul_one]; exact Nat.le_refl _))) fun c hc => by cases hc; exact Nat.le_refl _
end
end Go.Proofs.YtmmapljeeccdnaaDoor
