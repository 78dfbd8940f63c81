/-
  Bits of events: a base below 2^25 and three bits of modifiers from 2^25 on. Plain arithmetic. Conditions: none.
-/
import Derived.Test.YtpjpefcpbkmilaaDoorS3
namespace Go.Proofs.YtpjpefcpbkmilaaDoor

theorem nat_or (b k : Nat) (hb : b < 33554432) : b ||| (33554432 * k) = 33554432 * k + b := by
  have := Nat.two_pow_add_eq_or_of_lt (i := 25) (b := b) (by simpa using hb) k
  rw [Nat.or_comm]
  simpa using this.symm
theorem bv_toNat (a : Int) (h1 : 0 ≤ a) (h2 : a < 18446744073709551616) : (BitVec.ofInt 64 a).toNat = a.toNat := by
  rw [BitVec.toNat_ofInt]
  congr 1
  exact Int.emod_eq_of_lt h1 (by simpa using h2)
theorem iOr_add (b k : Int) (h1 : 0 ≤ b) (h2 : b < 33554432) (h3 : 0 ≤ k) (h4 : k < 8) : iOr .i64 b (33554432 * k) = b + 33554432 * k := by
  unfold iOr
  have e : (BitVec.ofInt IntKind.i64.bits b ||| BitVec.ofInt IntKind.i64.bits (33554432 * k)).toNat = b.toNat ||| (33554432 * k.toNat) := by
    rw [BitVec.toNat_or]
    rw [show IntKind.i64.bits = 64 from rfl, bv_toNat b h1 (by omega), bv_toNat _ (by omega) (by omega)]
    congr 1
    omega
  rw [e, nat_or _ _ (by omega), wrap_in (by omega) (by omega)]
  omega
end Go.Proofs.YtpjpefcpbkmilaaDoor
