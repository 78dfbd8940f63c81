/-
  Bits of events: a base below 2^25 and three bits of modifiers from 2^25 on. Plain arithmetic. Conditions: none.
-/
import Derived.Test.YtpjpefcpbkmilaaDoorS3
namespace Go.Proofs.YtpjpefcpbkmilaaDoor

theorem nat_mask (n : Nat) : n &&& 234881024 = (n / 33554432 % 8) * 33554432 := by
  have e : (234881024 : Nat) = 7 <<< 25 := rfl
  have e2 : (n / 33554432 % 8) * 33554432 = ((n >>> 25) &&& 7) <<< 25 := by
    rw [Nat.shiftLeft_eq, Nat.shiftRight_eq_div_pow, show (7 : Nat) = 2 ^ 3 - 1 from rfl, Nat.and_two_pow_sub_one_eq_mod]
  rw [e2, e]
  apply Nat.eq_of_testBit_eq
  intro i
  simp only [Nat.testBit_and, Nat.testBit_shiftLeft, Nat.testBit_shiftRight]
  by_cases h : 25 ≤ i
  · simp [h, show 25 + (i - 25) = i by omega]
  · simp [h]
theorem nat_or (b k : Nat) (hb : b < 33554432) : b ||| (33554432 * k) = 33554432 * k + b := by
  have := Nat.two_pow_add_eq_or_of_lt (i := 25) (b := b) (by simpa using hb) k
  rw [Nat.or_comm]
  simpa using this.symm
theorem bv_toNat (a : Int) (h1 : 0 ≤ a) (h2 : a < 18446744073709551616) : (BitVec.ofInt 64 a).toNat = a.toNat := by
  rw [BitVec.toNat_ofInt]
  congr 1
  exact Int.emod_eq_of_lt h1 (by simpa using h2)
theorem iOr_add (b k : Int) (h1 : 0 ≤ b) (h2 : b < 33554432) (h3 : 0 ≤ k) (h4 : k < 8) : iOr .i64 b (33554432 * k) = b + 33554432 * k := by
  unfold iOr
  have e : (BitVec.ofInt IntKind.i64.bits b ||| BitVec.ofInt IntKind.i64.bits (33554432 * k)).toNat = b.toNat ||| (33554432 * k.toNat) := by
    rw [BitVec.toNat_or]
    rw [show IntKind.i64.bits = 64 from rfl, bv_toNat b h1 (by omega), bv_toNat _ (by omega) (by omega)]
    congr 1
    omega
  rw [e, nat_or _ _ (by omega), wrap_in (by omega) (by omega)]
  omega
theorem iAnd_mask (b k : Int) (h1 : 0 ≤ b) (h2 : b < 33554432) (h3 : 0 ≤ k) (h4 : k < 8) : iAnd .i64 (b + 33554432 * k) 234881024 = 33554432 * k := by
  unfold iAnd
  have e : (BitVec.ofInt IntKind.i64.bits (b + 33554432 * k) &&& BitVec.ofInt IntKind.i64.bits 234881024).toNat = (b + 33554432 * k).toNat &&& 234881024 := by
    rw [BitVec.toNat_and]
    rw [show IntKind.i64.bits = 64 from rfl, bv_toNat _ (by omega) (by omega), bv_toNat _ (by omega) (by omega)]
    rfl
  rw [e, nat_mask, wrap_in (by omega) (by omega)]
  omega
theorem and_not (w : Nat) (x y : BitVec w) : (x &&& ~~~y).toNat = x.toNat - (x &&& y).toNat := by
  have h : (x &&& y) + (x &&& ~~~y) = x := by
    rw [BitVec.add_eq_or_of_and_eq_zero]
    · rw [← BitVec.and_or_distrib_left]
      simp
    · apply BitVec.eq_of_getLsbD_eq
      intro i hi
      simp
      intro a b c
      simp_all
  have key : ∀ a b : BitVec w, a + b = x → a.toNat ≤ x.toNat → b.toNat = x.toNat - a.toNat := fun a b hab hle => by
    have e : b = x - a := by rw [← hab, BitVec.add_comm, BitVec.add_sub_cancel]
    rw [e, BitVec.toNat_sub_of_le (BitVec.le_def.2 hle)]
  exact key _ _ h (by rw [BitVec.toNat_and]; exact Nat.and_le_left)
theorem iAndNot_mask (b k : Int) (h1 : 0 ≤ b) (h2 : b < 33554432) (h3 : 0 ≤ k) (h4 : k < 8) : iAndNot .i64 (b + 33554432 * k) 234881024 = b := by
  unfold iAndNot
  rw [and_not]
  have e : (BitVec.ofInt IntKind.i64.bits (b + 33554432 * k) &&& BitVec.ofInt IntKind.i64.bits 234881024).toNat = (b + 33554432 * k).toNat &&& 234881024 := by
    rw [BitVec.toNat_and]
    rw [show IntKind.i64.bits = 64 from rfl, bv_toNat _ (by omega) (by omega), bv_toNat _ (by omega) (by omega)]
    rfl
  rw [e, nat_mask, show IntKind.i64.bits = 64 from rfl, bv_toNat _ (by omega) (by omega), wrap_in (by omega) (by omega)]
  omega
end Go.Proofs.YtpjpefcpbkmilaaDoor
