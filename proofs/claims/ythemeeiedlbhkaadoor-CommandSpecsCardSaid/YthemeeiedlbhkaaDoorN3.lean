/-
 Library functions on strings as calls of the second memory; a character made a string. Conditions: none.
 The character that stands for a fault is no code, in the second memory. Conditions: none.
 Codes. Conditions: none.
-/
import Derived.Test.YthemeeiedlbhkaaDoorN2
import Derived.Test.YthemeeiedlbhkaaDoorN1
import Derived.Test.YthemeeiedlbhkaaDoorCqa
import Derived.Test.YthemeeiedlbhkaaDoorCph
import Derived.Test.YthemeeiedlbhkaaDoorR2
import Derived.Test.YthemeeiedlbhkaaDoorComAw
namespace Go.Proofs.YthemeeiedlbhkaaDoor
open Go.Lib Go.RowKit
set_option maxRecDepth 100000
section
variable {G : Nat} {σ : Mem}
theorem s_ixb {bs : List UInt8} {b : UInt8} : SCall G Tryd.prog 94 #[.string ⟨bs.toArray⟩, .int .u8 ((b.toNat : Nat) : Int)] σ (.int .i64 (Lib.indexByte bs b)) σ :=
 below_call rfl rfl fun w => by
  have := Tryd.strings_IndexByte ⟨bs.toArray⟩ ((b.toNat : Nat) : Int) w
  refine this.mono ?_
  rintro e w' ⟨rfl, rfl⟩
  exact ⟨by simp, Below.refl _ _⟩
theorem s_index {bs : List UInt8} {b : UInt8} : SCall G Tryd.prog 65 #[.string ⟨bs.toArray⟩, .string ⟨#[b]⟩] σ (.int .i64 (Lib.indexByte bs b)) σ :=
 below_call rfl rfl fun w => by
  have := Tryd.strings_Index_one ⟨bs.toArray⟩ b w
  refine this.mono ?_
  rintro e w' ⟨rfl, rfl⟩
  exact ⟨by simp, Below.refl _ _⟩
theorem s_cont {bs : List UInt8} {b : UInt8} : SCall G Tryd.prog 38 #[.string ⟨bs.toArray⟩, .string ⟨#[b]⟩] σ (.bool (decide (0 ≤ Lib.indexByte bs b))) σ :=
 below_call rfl rfl fun w => by
  have := Tryd.strings_Contains_one ⟨bs.toArray⟩ b w
  refine this.mono ?_
  rintro e w' ⟨rfl, rfl⟩
  exact ⟨by simp, Below.refl _ _⟩
theorem s_irune {bs : List UInt8} {c : Int} (h0 : 0 ≤ c) (h1 : c < 128) : SCall G Tryd.prog 68 #[.string ⟨bs.toArray⟩, .int .i32 c] σ (.int .i64 (Lib.indexByte bs c.toNat.toUInt8)) σ :=
 below_call rfl rfl fun w => by
  have := Tryd.strings_IndexRune_ascii ⟨bs.toArray⟩ c w h0 h1
  refine this.mono ?_
  rintro e w' ⟨rfl, rfl⟩
  exact ⟨by simp, Below.refl _ _⟩
theorem s_trimL {bs : List UInt8} : SCall G Tryd.prog 37 #[.string ⟨bs.toArray⟩, .string ⟨#[42, 64, 94]⟩] σ (.string ⟨(bs.dropWhile fun b => [42, 64, 94].contains b).toArray⟩) σ :=
 below_call rfl rfl fun w => by
  have := Tryd.strings_TrimLeft ⟨bs.toArray⟩ ⟨#[42, 64, 94]⟩ w (by decide) (by
   intro j b h
   match j, h with
   | 0, h => cases h; decide
   | 1, h => cases h; decide
   | 2, h => cases h; decide
   | j + 3, h => simp at h)
  refine this.mono ?_
  rintro e w' ⟨rfl, hb⟩
  exact ⟨by simp [Lib.trimLeftS], hb⟩
theorem s_vrune (c : Int) : SCall G Tryd.prog 95 #[.int .i32 c] σ (.bool (chB c)) σ :=
 below_call rfl rfl fun w => by
  have := Tryd.utf8_ValidRune c w
  refine this.mono ?_
  rintro e w' ⟨rfl, rfl⟩
  have e : Lib.validRune c = chB c := by
   unfold Lib.validRune chB
   exact decide_eq_decide.2 (by omega)
  exact ⟨by rw [e], Below.refl _ _⟩
end
theorem vop_rune {P : Program} {o : Oper} {ρ : Operand → Value} {src dst : TypeId} {x : Operand} {c : Int} {k : IntKind} (hc : chB c = true) (ho : o.op = .convert src dst x) (hx : ρ x = .int k c) (hs : P.underlying src = some (.int k)) (hd : P.underlying dst = some .string) : VOp P o ρ (.string ⟨(encodeRune c).toArray⟩) := fun μ ρc hor => by
 rw [ho] at hor
 have h1 := hor x (by simp [Op.operands])
 rw [hx] at h1
 have h1 := flatV_eq rfl h1
 have e : (⟨(encodeRune c).toArray⟩ : ByteArray) = Utf8.encode c := by
  apply Go.WideShapes.bytes_inj
  rw [enc_utf hc]
 refine ⟨_, .flat _ rfl, fun w => ?_⟩
 unfold execOp
 rw [e]
 have hrun : (convert src dst (.int k c)).run P w = .ok (.string (Utf8.encode c)) w := by
  simp [convert, Conv.intToString, run_underlying hs, run_underlying hd]
 simp only [ho, Sem.run_bind, h1, hrun, Result.andThen_ok]
 rfl
theorem enc_long {c : Int} (hc : chB c = true) (h : 128 ≤ c) : 2 ≤ (encodeRune c).length := by
 obtain ⟨c0, c1, c2⟩ := chB_iff.1 hc
 unfold encodeRune
 rw [List.length_map]
 by_cases q2 : c ≤ 2047
 ·rw [encodeRuneZ_two (by omega) q2]; exact Nat.le_refl 2
 ·by_cases q3 : c ≤ 65535
  ·rw [encodeRuneZ_three (by omega)]; exact Nat.le_succ 2
  ·rw [encodeRuneZ_four (by omega) (by omega)]; exact Nat.le_add_left 2 2
def codesB : List UInt8 := [97, 98, 66, 99, 67, 100, 102, 105, 107, 109, 110, 78, 112, 80, 114, 115, 83, 118, 120]
theorem codes_small {b : UInt8} (h : b ∈ codesB) : b.toNat < 128 := by
 have : codesB.all (fun b => decide (b.toNat < 128)) = true := by decide
 exact of_decide_eq_true (List.all_eq_true.1 this b h)
theorem codes_ne {c : Int} {j k : Nat} (hc : chB c = true) (_ : 128 ≤ c) (h0 : 0 < k) (hk : k < (encodeRune c).length) : ((codesB.getD j 0).toNat : Int) ≠ (((encodeRune c).getD k 0).toNat : Int) := by
 have h1 := (enc_tail c hc k h0 hk).1
 have h2 : (codesB.getD j 0).toNat < 128 := by
  by_cases hj : j < codesB.length
  ·exact codes_small (by rw [List.getD_eq_getElem?_getD, List.getElem?_eq_getElem hj]; exact List.getElem_mem _)
  ·rw [List.getD_eq_getElem?_getD, List.getElem?_eq_none (by omega)]; decide
 omega
theorem codes_out {c : Int} {j k : Nat} (hc : chB c = true) (_ : 128 ≤ c) (h : 0 < k ∧ k < (encodeRune c).length) : (encodeRune c).getD k 0 ∉ codesB.drop j := fun e => by
 have h1 := (enc_tail c hc k h.1 h.2).1
 have h2 := codes_small (List.mem_of_mem_drop e)
 omega
theorem codes_ix {c : Int} (h0 : 0 ≤ c) (h1 : c < 128) : decide (Lib.indexByte codesB c.toNat.toUInt8 ≥ 0) = decide (c ∈ codeL) := by
 have key : ∀ n : Fin 128, decide (Lib.indexByte codesB n.val.toUInt8 ≥ 0) = decide (((n.val : Nat) : Int) ∈ codeL) := by decide
 obtain ⟨n, rfl⟩ : ∃ n : Nat, c = n := ⟨c.toNat, by omega⟩
 exact key ⟨n, by omega⟩
theorem codes_far {c : Int} (h : c ≤ 0 ∨ 128 ≤ c) : c ∉ codeL := fun e => by
 have := codes_ok e
 have h0 : c ≠ 0 := fun z => by rw [z] at e; revert e; decide
 omega
end Go.Proofs.YthemeeiedlbhkaaDoor
namespace Go.Proofs.YthemeeiedlbhkaaDoor
set_option maxRecDepth 100000
theorem s_iruneE {G : Nat} {σ : Mem} (hG : 64 ≤ G) (hR : RowsAt rowsU σ) : SCall G Tryd.prog 68 #[.string ⟨#[97, 98, 66, 99, 67, 100, 102, 105, 107, 109, 110, 78, 112, 80, 114, 115, 83, 118, 120]⟩, .int .i32 65533] σ (.int .i64 (-1)) σ :=
 closed_scall (n := 3000) k0_right (by kernel_rfl) rfl rfl rowsU_low (fun g cs hm => by have := rowsU_low g cs hm; omega) rowsU_flat σ hR
end Go.Proofs.YthemeeiedlbhkaaDoor
namespace Go.Proofs.YthemeeiedlbhkaaDoor
open Go.Lib
set_option maxRecDepth 100000
set_option maxHeartbeats 8000000 in
theorem p_indexRune {G : Nat} {A : Abs} {σ : Mem} {F : Nat → Option Blk2} {L : List Ent} {c : Int} (hc : 128 ≤ c) (hc2 : c ≤ 1114111) (hne : c ≠ 65533) (H : Lies G A F σ L) : WC G Tryd.prog 68 #[.string ⟨#[97, 98, 66, 99, 67, 100, 102, 105, 107, 109, 110, 78, 112, 80, 114, 115, 83, 118, 120]⟩, .int .i32 c] σ fun v σ' => v = .int .i64 (-1) ∧ Lies G A F σ' L := by
 have hcl : codesB.length = 19 := rfl
 refine WC.enter (fn := Tryd.f68) Tryd.func68 rfl ?_
 refine W.rg [(0, .string ⟨#[97, 98, 66, 99, 67, 100, 102, 105, 107, 109, 110, 78, 112, 80, 114, 115, 83, 118, 120]⟩), (1, .int .i32 c)] fun TA => ?_
 refine W.seq (W.region ?_)
 refine RW.v ?_
 refine RW.nil ?_
 refine W.rg [(0, .string ⟨#[97, 98, 66, 99, 67, 100, 102, 105, 107, 109, 110, 78, 112, 80, 114, 115, 83, 118, 120]⟩), (1, .int .i32 c)] fun TA => ?_
 refine W.block ?_
 refine W.seq (W.region ?_)
 refine RW.v ?_
 refine RW.valE (v' := .bool true) (by kernel_rfl) (by kernel_rfl) rfl (congrArg Value.bool (decide_eq_true (by omega))) (by kernel_rfl) ?_
 refine RW.v ?_
 refine RW.w ?_
 refine RW.valE (v' := .bool false) (by rfl) (by kernel_rfl) rfl (congrArg Value.bool (decide_eq_false (by omega))) (by kernel_rfl) ?_
 iterate 2 refine RW.v ?_
 refine RW.nil ?_
 refine W.c0 ?_
 refine W.seq (W.region ?_)
 refine RW.v ?_
 refine RW.valE (v' := .bool false) (by kernel_rfl) (by kernel_rfl) rfl (congrArg Value.bool (beq_eq_false_iff_ne.2 (by exact hne))) (by kernel_rfl) ?_
 refine RW.v ?_
 refine RW.nil ?_
 refine W.c0 ?_
 refine W.seq (W.region ?_)
 refine RW.v ?_
 refine RW.cl ?_
 refine ⟨_, _, (s_vrune c), ?_⟩
 iterate 2 refine RW.v ?_
 refine RW.nil ?_
 refine W.rg [(0, .string ⟨#[97, 98, 66, 99, 67, 100, 102, 105, 107, 109, 110, 78, 112, 80, 114, 115, 83, 118, 120]⟩), (1, .int .i32 c), (183, .bool (!(chB c)))] fun TA => ?_
 refine W.cond rfl (fun hc1 => ?_) (fun hc1 => ?_)
 ·have hc1b := hc1
  refine W.seq (W.region ?_)
  refine RW.v ?_
  refine RW.nil ?_
  refine W.ret ?_
  refine blkQ_ret ?_
  refine endG (by rfl) (by exact resL_tmp rfl) ?_
  exact ⟨rfl, H⟩
 ·have hc1b := hc1
  refine W.scope ?_
  refine W.seq (W.region ?_)
  refine RW.v ?_
  have hch : chB c = true := by simpa using hc1b
  have hen := enc_long hch hc
  have hel := enc_len c
  refine RW.vop (v := .string ⟨(encodeRune c).toArray⟩) (by kernel_rfl) (by kernel_rfl) (vop_rune hch rfl rfl rfl rfl) (by kernel_rfl) ?_
  refine RW.v ?_
  refine RW.nil ?_
  refine W.rg [(0, .string ⟨#[97, 98, 66, 99, 67, 100, 102, 105, 107, 109, 110, 78, 112, 80, 114, 115, 83, 118, 120]⟩), (7, .string ⟨(encodeRune c).toArray⟩)] fun TA => ?_
  refine W.seq (W.region ?_)
  refine RW.v ?_
  refine RW.vop (v := .int .i64 ((encodeRune c).length : Int)) (by kernel_rfl) (by kernel_rfl) (vop_sLenL rfl rfl rfl rfl Tryd.underlying9 rfl) (by kernel_rfl) ?_
  refine RW.valE (v' := .int .i64 ((((encodeRune c).length - 1) : Nat) : Int)) (by kernel_rfl) (by kernel_rfl) rfl (congrArg (Value.int .i64) ((wrap_in (by omega) (by omega)).trans (by omega))) (by kernel_rfl) ?_
  refine RW.v ?_
  refine RW.nil ?_
  refine W.rg [(0, .string ⟨#[97, 98, 66, 99, 67, 100, 102, 105, 107, 109, 110, 78, 112, 80, 114, 115, 83, 118, 120]⟩), (7, .string ⟨(encodeRune c).toArray⟩), (8, .int .i64 ((((encodeRune c).length - 1) : Nat) : Int))] fun TA => ?_
  refine W.seq (W.region ?_)
  iterate 2 refine RW.v ?_
  refine RW.nil ?_
  refine W.rg [(0, .string ⟨#[97, 98, 66, 99, 67, 100, 102, 105, 107, 109, 110, 78, 112, 80, 114, 115, 83, 118, 120]⟩), (7, .string ⟨(encodeRune c).toArray⟩), (8, .int .i64 ((((encodeRune c).length - 1) : Nat) : Int)), (9, .int .i64 ((((encodeRune c).length - 1) : Nat) : Int))] fun TA => ?_
  refine W.seq (W.region ?_)
  refine RW.v ?_
  refine RW.nil ?_
  refine W.rg [(0, .string ⟨#[97, 98, 66, 99, 67, 100, 102, 105, 107, 109, 110, 78, 112, 80, 114, 115, 83, 118, 120]⟩), (7, .string ⟨(encodeRune c).toArray⟩), (8, .int .i64 ((((encodeRune c).length - 1) : Nat) : Int)), (9, .int .i64 ((((encodeRune c).length - 1) : Nat) : Int))] fun TA => ?_
  refine W.seq ?_
  refine W.block ?_
  refine W.unroll (WL.once ?_)
  refine W.seq ?_
  refine W.seq (W.region ?_)
  iterate 2 refine RW.v ?_
  refine RW.vop (v := .int .i64 (codesB.length : Int)) (by kernel_rfl) (by kernel_rfl) (vop_sLenL rfl rfl rfl rfl Tryd.underlying9 rfl) (by kernel_rfl) ?_
  refine RW.valE (v' := .bool true) (by kernel_rfl) (by kernel_rfl) rfl (congrArg Value.bool (decide_eq_true (by omega))) (by kernel_rfl) ?_
  refine RW.nil ?_
  refine W.c1 ?_
  refine W.skip ?_
  refine W.block ?_
  refine W.scope ?_
  refine W.seq ?_
  refine W.seq ?_
  refine W.drawn (by kernel_rfl) (by kernel_rfl) H.gn ?_
  have H2 := H
  iterate 2 refine RW.v ?_
  refine RW.vop (v := .int .u8 ((codesB.getD ((encodeRune c).length - 1) 0).toNat : Int)) (by kernel_rfl) (by kernel_rfl) (vop_sAtL (a := codesB) (j := ((encodeRune c).length - 1)) rfl rfl rfl Tryd.underlying9 (by omega)) (by kernel_rfl) ?_
  iterate 2 refine RW.v ?_
  refine RW.vop (v := .int .u8 (((encodeRune c).getD ((encodeRune c).length - 1) 0).toNat : Int)) (by kernel_rfl) (by kernel_rfl) (vop_sAtL (a := (encodeRune c)) (j := ((encodeRune c).length - 1)) rfl rfl rfl Tryd.underlying9 (by omega)) (by kernel_rfl) ?_
  refine RW.valE (v' := .bool true) (by kernel_rfl) (by kernel_rfl) rfl (congrArg Value.bool (bne_iff_ne.2 (codes_ne hch hc (by omega) (by omega)))) (by kernel_rfl) ?_
  refine RW.nil ?_
  refine ⟨⟨by kernel_rfl, ⟨trivial, trivial, trivial, trivial, trivial, trivial, trivial, trivial⟩⟩, ?_⟩
  replace H := H2
  clear H2
  refine W.c1 ?_
  refine W.seq ?_
  refine W.drawn (by kernel_rfl) (by kernel_rfl) H.gn ?_
  have H3 := H
  iterate 2 refine RW.v ?_
  refine RW.valE (v' := .int .i64 (((((encodeRune c).length - 1) + 1) : Nat) : Int)) (by kernel_rfl) (by kernel_rfl) rfl (congrArg (Value.int .i64) ((wrap_in (by omega) (by omega)).trans (by omega))) (by kernel_rfl) ?_
  refine RW.vop (v := .string ⟨(codesB.drop (((encodeRune c).length - 1) + 1)).toArray⟩) (by kernel_rfl) (by kernel_rfl) (vop_sTailL (a := codesB) (j := (((encodeRune c).length - 1) + 1)) rfl rfl rfl Tryd.underlying9 (by omega)) (by kernel_rfl) ?_
  iterate 2 refine RW.v ?_
  refine RW.vop (v := .int .u8 (((encodeRune c).getD ((encodeRune c).length - 1) 0).toNat : Int)) (by kernel_rfl) (by kernel_rfl) (vop_sAtL (a := (encodeRune c)) (j := ((encodeRune c).length - 1)) rfl rfl rfl Tryd.underlying9 (by omega)) (by kernel_rfl) ?_
  have hix := ixb_none (c := ((encodeRune c).getD ((encodeRune c).length - 1) 0)) (s := (codesB.drop (((encodeRune c).length - 1) + 1))) (codes_out hch hc (by omega))
  refine RW.cl ?_
  refine ⟨_, _, (s_ixb (bs := (codesB.drop (((encodeRune c).length - 1) + 1))) (b := ((encodeRune c).getD ((encodeRune c).length - 1) 0))), ?_⟩
  refine RW.v ?_
  refine RW.nil ?_
  refine ⟨⟨by kernel_rfl, ⟨trivial, trivial, trivial, trivial, trivial, trivial, trivial, trivial, trivial, trivial⟩⟩, ?_⟩
  replace H := H3
  clear H3
  refine W.rg [(0, .string ⟨#[97, 98, 66, 99, 67, 100, 102, 105, 107, 109, 110, 78, 112, 80, 114, 115, 83, 118, 120]⟩), (7, .string ⟨(encodeRune c).toArray⟩), (8, .int .i64 ((((encodeRune c).length - 1) : Nat) : Int)), (9, .int .i64 ((((encodeRune c).length - 1) : Nat) : Int)), (11, .int .i64 (Lib.indexByte (codesB.drop (((encodeRune c).length - 1) + 1)) ((encodeRune c).getD ((encodeRune c).length - 1) 0)))] fun TA => ?_
  refine W.seq ?_
  refine W.seq (W.region ?_)
  refine RW.v ?_
  refine RW.valE (v' := .bool true) (by kernel_rfl) (by kernel_rfl) rfl (congrArg Value.bool (decide_eq_true (by rw [hix]; decide))) (by kernel_rfl) ?_
  refine RW.nil ?_
  refine W.c1 ?_
  refine W.seq (W.region ?_)
  refine RW.v ?_
  refine RW.nil ?_
  refine W.ret ?_
  refine seqQ_ret ?_
  refine seqQ_ret ?_
  refine ⟨rfl, ?_⟩
  refine blkQ_ret ?_
  refine onceQ_ret ?_
  refine blkQ_ret ?_
  refine seqQ_ret ?_
  refine ⟨rfl, ?_⟩
  refine blkQ_ret ?_
  refine endG (by rfl) (by exact resL_tmp rfl) ?_
  exact ⟨rfl, H⟩
set_option maxHeartbeats 8000000 in
theorem p_coded {G : Nat} {A : Abs} {σ : Mem} {F : Nat → Option Blk2} {L : List Ent} {c : Int} (h64 : 64 ≤ G) (hR : RowsAt rowsU σ) (hc0 : 0 ≤ c) (hle : c ≤ 1114111) (H : Lies G A F σ L) : WC G Tryd.prog 41 #[.int .i32 c] σ fun v σ' => v = .bool (decide (c ∈ codeL)) ∧ Lies G A F σ' L := by
 refine WC.enter (fn := Tryd.f41) Tryd.func41 rfl ?_
 refine W.rg [(0, .int .i32 c)] fun TA => ?_
 refine W.seq (W.region ?_)
 refine RW.v ?_
 refine RW.nil ?_
 refine W.rg [(0, .int .i32 c)] fun TA => ?_
 refine W.seq (W.region ?_)
 iterate 3 refine RW.v ?_
 refine RW.both _ _ rfl rfl rfl (fun hc1 => ?_) (fun hc1 => ?_)
 ·have hc1b := hc1
  have hc1 := of_decide_eq_true hc1
  refine RW.w ?_
  by_cases h128 : c < 128
  ·refine RW.cl (hw := by rfl) ?_
   refine ⟨_, _, (s_irune (bs := codesB) (by omega) h128), ?_⟩
   refine RW.w ?_
   iterate 2 refine RW.v ?_
   refine RW.nil ?_
   refine W.ret ?_
   refine endG (by rfl) (by exact resL_tmp rfl) ?_
   exact ⟨congrArg Value.bool (codes_ix (by omega) h128), H⟩
  ·by_cases hne : c = 65533
   ·subst hne
    refine RW.cl (hw := by rfl) ?_
    refine ⟨_, _, (s_iruneE h64 hR), ?_⟩
    refine RW.w ?_
    iterate 2 refine RW.v ?_
    refine RW.nil ?_
    refine W.ret ?_
    refine endG (by rfl) (by exact resL_tmp rfl) ?_
    rw [decide_eq_false (codes_far (.inr (by decide)))]
    exact ⟨rfl, H⟩
   ·refine RW.cl (hw := by rfl) ?_
    refine ((p_indexRune (c := c) (by omega) hle hne H).mono ?_)
    clear H
    rintro _ _ ⟨rfl, H⟩
    refine RW.w ?_
    iterate 2 refine RW.v ?_
    refine RW.nil ?_
    refine W.ret ?_
    refine endG (by rfl) (by exact resL_tmp rfl) ?_
    rw [decide_eq_false (codes_far (.inr (by omega)))]
    exact ⟨rfl, H⟩
 ·have hc1b := hc1
  have hc1 := of_decide_eq_false hc1
  iterate 3 refine RW.s ?_
  iterate 2 refine RW.v ?_
  refine RW.nil ?_
  refine W.ret ?_
  refine endG (by rfl) (by exact resL_tmp rfl) ?_
  rw [decide_eq_false (codes_far (.inl (by omega)))]
  exact ⟨rfl, H⟩
end Go.Proofs.YthemeeiedlbhkaaDoor
