/-
  Specifications and their strings. Plain. Conditions: none.
  Flags and lines of a specification's bytes. Plain. Conditions: none.
-/
import Derived.Test.YtmlmnbcnfalaaaaDoorL4
import Derived.Lib.Bytealg
import Derived.Test.YtmlmnbcnfalaaaaDoorL3
import Derived.Test.YtmlmnbcnfalaaaaDoorV1
import Derived.Test.YtmlmnbcnfalaaaaDoorC1
namespace Go.Proofs.YtmlmnbcnfalaaaaDoor
open Go.Lib
set_option maxRecDepth 100000
abbrev Need := Int × List UInt8
structure SpecM where
 w : Bool
 e : Bool
 h : Bool
 n : List Need
/-! the text of a specification is parsed to it -/
end Go.Proofs.YtmlmnbcnfalaaaaDoor
namespace Go.Proofs.YtmlmnbcnfalaaaaDoor
open Go.Lib
set_option maxRecDepth 100000
theorem byte_asc {x : Int} {b : UInt8} (h0 : 0 ≤ x) (h1 : x < 256) (h : x.toNat.toUInt8 = b) : x = ((b.toNat : Nat) : Int) := by
 have := byte_toNat x h0 h1
 rw [h] at this
 omega
theorem enc_asc {c : Int} {b : UInt8} (hc : chB c = true) (hb : b.toNat < 128) (h : b ∈ encodeRune c) : c = ((b.toNat : Nat) : Int) := by
 obtain ⟨c0, c1, c2⟩ := chB_iff.1 hc
 unfold encodeRune at h
 rw [List.mem_map] at h
 obtain ⟨x, hx, hx2⟩ := h
 have hr := encodeRuneZ_byte c x hx
 have hx3 := byte_asc hr.1 hr.2 hx2
 subst hx3
 by_cases q1 : c ≤ 127
 ·rw [encodeRuneZ_one c0 q1] at hx; exact (List.mem_singleton.1 hx).symm
 ·exfalso
  by_cases q2 : c ≤ 2047
  ·rw [encodeRuneZ_two (by omega) q2] at hx; simp only [List.mem_cons, List.not_mem_nil, or_false] at hx; omega
  ·by_cases q3 : c ≤ 65535
   ·rw [encodeRuneZ_three (by omega)] at hx; simp only [List.mem_cons, List.not_mem_nil, or_false] at hx; omega
   ·rw [encodeRuneZ_four (by omega) (by omega)] at hx; simp only [List.mem_cons, List.not_mem_nil, or_false] at hx; omega
theorem encA_asc {b : UInt8} (hb : b.toNat < 128) : ∀ {a : List Int}, (∀ c ∈ a, chB c = true) → b ∈ encA a → ((b.toNat : Nat) : Int) ∈ a
 | [], _, h => absurd h (List.not_mem_nil)
 | c :: a, ha, h => by
  rw [encA_cons, List.mem_append] at h
  rcases h with h | h
  ·rw [enc_asc (ha c (List.mem_cons_self ..)) hb h]; exact List.mem_cons_self ..
  ·exact List.mem_cons_of_mem _ (encA_asc hb (fun x hx => ha x (List.mem_cons_of_mem _ hx)) h)
theorem encA_has {b : UInt8} (hb : b.toNat < 128) {a : List Int} (ha : ∀ c ∈ a, chB c = true) : b ∈ encA a ↔ ((b.toNat : Nat) : Int) ∈ a := by
 refine ⟨encA_asc hb ha, fun h => ?_⟩
 obtain ⟨p, q, rfl⟩ := List.append_of_mem h
 rw [encA_append, encA_cons]
 refine List.mem_append.2 (.inr (List.mem_append.2 (.inl ?_)))
 unfold encodeRune
 rw [encodeRuneZ_one (by omega) (by omega)]
 exact List.mem_singleton.2 (by simp)
section
variable {P : Program} {o : Oper} {ρ : Operand → Value}
end
end Go.Proofs.YtmlmnbcnfalaaaaDoor
