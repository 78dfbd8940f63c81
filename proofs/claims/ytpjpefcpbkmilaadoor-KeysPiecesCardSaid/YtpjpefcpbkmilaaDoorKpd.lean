/-
 letter, numbered, strings.Cut. Conditions: none.
-/
import Derived.Test.YtpjpefcpbkmilaaDoorKpc
import Derived.Test.YtpjpefcpbkmilaaDoorK1
import Derived.Test.YtpjpefcpbkmilaaDoorShelf
namespace Go.Proofs.YtpjpefcpbkmilaaDoor
open Go.Lib
set_option maxRecDepth 100000
theorem letter_miss {c : Nat} (k1 : c ≠ 65) (k2 : c ≠ 66) (k3 : c ≠ 67) (k4 : c ≠ 68) (k5 : c ≠ 72) (k6 : c ≠ 70) : lookE Tryd.prog [(.int .u8 65, .string ⟨#[117, 112]⟩), (.int .u8 66, .string ⟨#[100, 111, 119, 110]⟩), (.int .u8 67, .string ⟨#[114, 105, 103, 104, 116]⟩), (.int .u8 68, .string ⟨#[108, 101, 102, 116]⟩), (.int .u8 72, .string ⟨#[104, 111, 109, 101]⟩), (.int .u8 70, .string ⟨#[101, 110, 100]⟩)] 104 (.int .u8 ((c : Nat) : Int)) false = some (.string ByteArray.empty) := by
 have h1 : uT Tryd.prog 104 = some (.map 5 9) := by kernel_rfl
 have h2 : uT Tryd.prog 5 = some (.int .u8) := by kernel_rfl
 have h3 : zeroT Tryd.prog 9 = some (.string ByteArray.empty) := by kernel_rfl
 have hk : keyOk Tryd.prog 5 (.int .u8) (.int .u8 ((c : Nat) : Int)) = true := rfl
 unfold lookE
 simp only [h1, h2, h3]
 rw [if_pos ⟨hk, rfl, rfl⟩, findX_plain rfl]
 have e : ∀ k : Int, ((c : Nat) : Int) ≠ k → Instr.sameNow (.int .u8) (.int .u8 ((c : Nat) : Int)) (.int .u8 k) = some false := fun k hk => by
  have hb : (((c : Nat) : Int) == k) = false := beq_eq_false_iff_ne.2 hk
  unfold Instr.sameNow
  simp [hb]
  try omega
 unfold findE
 rw [e 65 (by omega)]
 dsimp only
 unfold findE
 rw [e 66 (by omega)]
 dsimp only
 unfold findE
 rw [e 67 (by omega)]
 dsimp only
 unfold findE
 rw [e 68 (by omega)]
 dsimp only
 unfold findE
 rw [e 72 (by omega)]
 dsimp only
 unfold findE
 rw [e 70 (by omega)]
 rfl
section
variable {G : Nat} {A : Abs} {σ : Mem} {F : Nat → Option Blk2} {L : List Ent}
set_option maxHeartbeats 4000000 in
theorem letter_65 (H : Lies G A F σ L) : WC G Tryd.prog 60 #[.int .u8 65] σ fun r σ' => r = .int .i64 2097165 ∧ Lies G A F σ' L := by
 refine WC.enter (fn := Tryd.f60) Tryd.func60 rfl ?_
 refine W.rg [(0, .int .u8 65)] fun TA => ?_
 refine W.seq (W.region ?_)
 refine RW.v ?_
 refine RW.nil ?_
 refine W.rg [(0, .int .u8 65)] fun TA => ?_
 refine W.seq (W.region ?_)
 refine RW.mkM H ?_
 clear H; intro _ b1 _ H
 refine RW.upL H 0 [(.int .u8 65, .string ⟨#[117, 112]⟩)] 1 ?_
 clear H; intro _ _ H; dsimp only [setL, delL] at H
 refine RW.upL H 0 [(.int .u8 65, .string ⟨#[117, 112]⟩), (.int .u8 66, .string ⟨#[100, 111, 119, 110]⟩)] 2 ?_
 clear H; intro _ _ H; dsimp only [setL, delL] at H
 refine RW.upL H 0 [(.int .u8 65, .string ⟨#[117, 112]⟩), (.int .u8 66, .string ⟨#[100, 111, 119, 110]⟩), (.int .u8 67, .string ⟨#[114, 105, 103, 104, 116]⟩)] 3 ?_
 clear H; intro _ _ H; dsimp only [setL, delL] at H
 refine RW.upL H 0 [(.int .u8 65, .string ⟨#[117, 112]⟩), (.int .u8 66, .string ⟨#[100, 111, 119, 110]⟩), (.int .u8 67, .string ⟨#[114, 105, 103, 104, 116]⟩), (.int .u8 68, .string ⟨#[108, 101, 102, 116]⟩)] 4 ?_
 clear H; intro _ _ H; dsimp only [setL, delL] at H
 refine RW.upL H 0 [(.int .u8 65, .string ⟨#[117, 112]⟩), (.int .u8 66, .string ⟨#[100, 111, 119, 110]⟩), (.int .u8 67, .string ⟨#[114, 105, 103, 104, 116]⟩), (.int .u8 68, .string ⟨#[108, 101, 102, 116]⟩), (.int .u8 72, .string ⟨#[104, 111, 109, 101]⟩)] 5 ?_
 clear H; intro _ _ H; dsimp only [setL, delL] at H
 refine RW.upL H 0 [(.int .u8 65, .string ⟨#[117, 112]⟩), (.int .u8 66, .string ⟨#[100, 111, 119, 110]⟩), (.int .u8 67, .string ⟨#[114, 105, 103, 104, 116]⟩), (.int .u8 68, .string ⟨#[108, 101, 102, 116]⟩), (.int .u8 72, .string ⟨#[104, 111, 109, 101]⟩), (.int .u8 70, .string ⟨#[101, 110, 100]⟩)] 6 ?_
 clear H; intro _ _ H; dsimp only [setL, delL] at H
 iterate 2 refine RW.v ?_
 refine RW.lkL H 0 (.string ⟨#[117, 112]⟩) ?_
 refine RW.v ?_
 refine RW.nil ?_
 replace H := (H.del 0)
 dsimp only [setL, delL] at H
 refine W.rg [(3, .string ⟨#[117, 112]⟩)] fun TA => ?_
 refine W.seq ?_
 refine W.seq (W.region ?_)
 refine RW.v ?_
 refine RW.valE (v' := .bool false) (by kernel_rfl) (by kernel_rfl) rfl (by kernel_rfl) (by kernel_rfl) ?_
 refine RW.nil ?_
 refine W.c0 ?_
 refine W.skip ?_
 refine W.seq (W.region ?_)
 refine RW.cl ?_
 refine ((table_wc (Lies.start H.gn H.abs)).mono ?_)
 rintro _ _ ⟨mb2, rfl, K3⟩
 have H : Lies G (A) F _ (.at_ mb2 (.ents tabE 27) :: (L)) := Lies.then H K3
 refine RW.v ?_
 refine RW.lkL H 0 (.int .i64 2097165) ?_
 refine RW.v ?_
 refine RW.nil ?_
 replace H := (H.del 0)
 dsimp only [setL, delL] at H
 refine W.ret ?_
 refine endG (by rfl) (by exact resL_tmp rfl) ?_
 exact ⟨rfl, H⟩
set_option maxHeartbeats 4000000 in
theorem letter_66 (H : Lies G A F σ L) : WC G Tryd.prog 60 #[.int .u8 66] σ fun r σ' => r = .int .i64 2097166 ∧ Lies G A F σ' L := by
 refine WC.enter (fn := Tryd.f60) Tryd.func60 rfl ?_
 refine W.rg [(0, .int .u8 66)] fun TA => ?_
 refine W.seq (W.region ?_)
 refine RW.v ?_
 refine RW.nil ?_
 refine W.rg [(0, .int .u8 66)] fun TA => ?_
 refine W.seq (W.region ?_)
 refine RW.mkM H ?_
 clear H; intro _ b1 _ H
 refine RW.upL H 0 [(.int .u8 65, .string ⟨#[117, 112]⟩)] 1 ?_
 clear H; intro _ _ H; dsimp only [setL, delL] at H
 refine RW.upL H 0 [(.int .u8 65, .string ⟨#[117, 112]⟩), (.int .u8 66, .string ⟨#[100, 111, 119, 110]⟩)] 2 ?_
 clear H; intro _ _ H; dsimp only [setL, delL] at H
 refine RW.upL H 0 [(.int .u8 65, .string ⟨#[117, 112]⟩), (.int .u8 66, .string ⟨#[100, 111, 119, 110]⟩), (.int .u8 67, .string ⟨#[114, 105, 103, 104, 116]⟩)] 3 ?_
 clear H; intro _ _ H; dsimp only [setL, delL] at H
 refine RW.upL H 0 [(.int .u8 65, .string ⟨#[117, 112]⟩), (.int .u8 66, .string ⟨#[100, 111, 119, 110]⟩), (.int .u8 67, .string ⟨#[114, 105, 103, 104, 116]⟩), (.int .u8 68, .string ⟨#[108, 101, 102, 116]⟩)] 4 ?_
 clear H; intro _ _ H; dsimp only [setL, delL] at H
 refine RW.upL H 0 [(.int .u8 65, .string ⟨#[117, 112]⟩), (.int .u8 66, .string ⟨#[100, 111, 119, 110]⟩), (.int .u8 67, .string ⟨#[114, 105, 103, 104, 116]⟩), (.int .u8 68, .string ⟨#[108, 101, 102, 116]⟩), (.int .u8 72, .string ⟨#[104, 111, 109, 101]⟩)] 5 ?_
 clear H; intro _ _ H; dsimp only [setL, delL] at H
 refine RW.upL H 0 [(.int .u8 65, .string ⟨#[117, 112]⟩), (.int .u8 66, .string ⟨#[100, 111, 119, 110]⟩), (.int .u8 67, .string ⟨#[114, 105, 103, 104, 116]⟩), (.int .u8 68, .string ⟨#[108, 101, 102, 116]⟩), (.int .u8 72, .string ⟨#[104, 111, 109, 101]⟩), (.int .u8 70, .string ⟨#[101, 110, 100]⟩)] 6 ?_
 clear H; intro _ _ H; dsimp only [setL, delL] at H
 iterate 2 refine RW.v ?_
 refine RW.lkL H 0 (.string ⟨#[100, 111, 119, 110]⟩) ?_
 refine RW.v ?_
 refine RW.nil ?_
 replace H := (H.del 0)
 dsimp only [setL, delL] at H
 refine W.rg [(3, .string ⟨#[100, 111, 119, 110]⟩)] fun TA => ?_
 refine W.seq ?_
 refine W.seq (W.region ?_)
 refine RW.v ?_
 refine RW.valE (v' := .bool false) (by kernel_rfl) (by kernel_rfl) rfl (by kernel_rfl) (by kernel_rfl) ?_
 refine RW.nil ?_
 refine W.c0 ?_
 refine W.skip ?_
 refine W.seq (W.region ?_)
 refine RW.cl ?_
 refine ((table_wc (Lies.start H.gn H.abs)).mono ?_)
 rintro _ _ ⟨mb2, rfl, K3⟩
 have H : Lies G (A) F _ (.at_ mb2 (.ents tabE 27) :: (L)) := Lies.then H K3
 refine RW.v ?_
 refine RW.lkL H 0 (.int .i64 2097166) ?_
 refine RW.v ?_
 refine RW.nil ?_
 replace H := (H.del 0)
 dsimp only [setL, delL] at H
 refine W.ret ?_
 refine endG (by rfl) (by exact resL_tmp rfl) ?_
 exact ⟨rfl, H⟩
set_option maxHeartbeats 4000000 in
theorem letter_67 (H : Lies G A F σ L) : WC G Tryd.prog 60 #[.int .u8 67] σ fun r σ' => r = .int .i64 2097168 ∧ Lies G A F σ' L := by
 refine WC.enter (fn := Tryd.f60) Tryd.func60 rfl ?_
 refine W.rg [(0, .int .u8 67)] fun TA => ?_
 refine W.seq (W.region ?_)
 refine RW.v ?_
 refine RW.nil ?_
 refine W.rg [(0, .int .u8 67)] fun TA => ?_
 refine W.seq (W.region ?_)
 refine RW.mkM H ?_
 clear H; intro _ b1 _ H
 refine RW.upL H 0 [(.int .u8 65, .string ⟨#[117, 112]⟩)] 1 ?_
 clear H; intro _ _ H; dsimp only [setL, delL] at H
 refine RW.upL H 0 [(.int .u8 65, .string ⟨#[117, 112]⟩), (.int .u8 66, .string ⟨#[100, 111, 119, 110]⟩)] 2 ?_
 clear H; intro _ _ H; dsimp only [setL, delL] at H
 refine RW.upL H 0 [(.int .u8 65, .string ⟨#[117, 112]⟩), (.int .u8 66, .string ⟨#[100, 111, 119, 110]⟩), (.int .u8 67, .string ⟨#[114, 105, 103, 104, 116]⟩)] 3 ?_
 clear H; intro _ _ H; dsimp only [setL, delL] at H
 refine RW.upL H 0 [(.int .u8 65, .string ⟨#[117, 112]⟩), (.int .u8 66, .string ⟨#[100, 111, 119, 110]⟩), (.int .u8 67, .string ⟨#[114, 105, 103, 104, 116]⟩), (.int .u8 68, .string ⟨#[108, 101, 102, 116]⟩)] 4 ?_
 clear H; intro _ _ H; dsimp only [setL, delL] at H
 refine RW.upL H 0 [(.int .u8 65, .string ⟨#[117, 112]⟩), (.int .u8 66, .string ⟨#[100, 111, 119, 110]⟩), (.int .u8 67, .string ⟨#[114, 105, 103, 104, 116]⟩), (.int .u8 68, .string ⟨#[108, 101, 102, 116]⟩), (.int .u8 72, .string ⟨#[104, 111, 109, 101]⟩)] 5 ?_
 clear H; intro _ _ H; dsimp only [setL, delL] at H
 refine RW.upL H 0 [(.int .u8 65, .string ⟨#[117, 112]⟩), (.int .u8 66, .string ⟨#[100, 111, 119, 110]⟩), (.int .u8 67, .string ⟨#[114, 105, 103, 104, 116]⟩), (.int .u8 68, .string ⟨#[108, 101, 102, 116]⟩), (.int .u8 72, .string ⟨#[104, 111, 109, 101]⟩), (.int .u8 70, .string ⟨#[101, 110, 100]⟩)] 6 ?_
 clear H; intro _ _ H; dsimp only [setL, delL] at H
 iterate 2 refine RW.v ?_
 refine RW.lkL H 0 (.string ⟨#[114, 105, 103, 104, 116]⟩) ?_
 refine RW.v ?_
 refine RW.nil ?_
 replace H := (H.del 0)
 dsimp only [setL, delL] at H
 refine W.rg [(3, .string ⟨#[114, 105, 103, 104, 116]⟩)] fun TA => ?_
 refine W.seq ?_
 refine W.seq (W.region ?_)
 refine RW.v ?_
 refine RW.valE (v' := .bool false) (by kernel_rfl) (by kernel_rfl) rfl (by kernel_rfl) (by kernel_rfl) ?_
 refine RW.nil ?_
 refine W.c0 ?_
 refine W.skip ?_
 refine W.seq (W.region ?_)
 refine RW.cl ?_
 refine ((table_wc (Lies.start H.gn H.abs)).mono ?_)
 rintro _ _ ⟨mb2, rfl, K3⟩
 have H : Lies G (A) F _ (.at_ mb2 (.ents tabE 27) :: (L)) := Lies.then H K3
 refine RW.v ?_
 refine RW.lkL H 0 (.int .i64 2097168) ?_
 refine RW.v ?_
 refine RW.nil ?_
 replace H := (H.del 0)
 dsimp only [setL, delL] at H
 refine W.ret ?_
 refine endG (by rfl) (by exact resL_tmp rfl) ?_
 exact ⟨rfl, H⟩
set_option maxHeartbeats 4000000 in
theorem letter_68 (H : Lies G A F σ L) : WC G Tryd.prog 60 #[.int .u8 68] σ fun r σ' => r = .int .i64 2097167 ∧ Lies G A F σ' L := by
 refine WC.enter (fn := Tryd.f60) Tryd.func60 rfl ?_
 refine W.rg [(0, .int .u8 68)] fun TA => ?_
 refine W.seq (W.region ?_)
 refine RW.v ?_
 refine RW.nil ?_
 refine W.rg [(0, .int .u8 68)] fun TA => ?_
 refine W.seq (W.region ?_)
 refine RW.mkM H ?_
 clear H; intro _ b1 _ H
 refine RW.upL H 0 [(.int .u8 65, .string ⟨#[117, 112]⟩)] 1 ?_
 clear H; intro _ _ H; dsimp only [setL, delL] at H
 refine RW.upL H 0 [(.int .u8 65, .string ⟨#[117, 112]⟩), (.int .u8 66, .string ⟨#[100, 111, 119, 110]⟩)] 2 ?_
 clear H; intro _ _ H; dsimp only [setL, delL] at H
 refine RW.upL H 0 [(.int .u8 65, .string ⟨#[117, 112]⟩), (.int .u8 66, .string ⟨#[100, 111, 119, 110]⟩), (.int .u8 67, .string ⟨#[114, 105, 103, 104, 116]⟩)] 3 ?_
 clear H; intro _ _ H; dsimp only [setL, delL] at H
 refine RW.upL H 0 [(.int .u8 65, .string ⟨#[117, 112]⟩), (.int .u8 66, .string ⟨#[100, 111, 119, 110]⟩), (.int .u8 67, .string ⟨#[114, 105, 103, 104, 116]⟩), (.int .u8 68, .string ⟨#[108, 101, 102, 116]⟩)] 4 ?_
 clear H; intro _ _ H; dsimp only [setL, delL] at H
 refine RW.upL H 0 [(.int .u8 65, .string ⟨#[117, 112]⟩), (.int .u8 66, .string ⟨#[100, 111, 119, 110]⟩), (.int .u8 67, .string ⟨#[114, 105, 103, 104, 116]⟩), (.int .u8 68, .string ⟨#[108, 101, 102, 116]⟩), (.int .u8 72, .string ⟨#[104, 111, 109, 101]⟩)] 5 ?_
 clear H; intro _ _ H; dsimp only [setL, delL] at H
 refine RW.upL H 0 [(.int .u8 65, .string ⟨#[117, 112]⟩), (.int .u8 66, .string ⟨#[100, 111, 119, 110]⟩), (.int .u8 67, .string ⟨#[114, 105, 103, 104, 116]⟩), (.int .u8 68, .string ⟨#[108, 101, 102, 116]⟩), (.int .u8 72, .string ⟨#[104, 111, 109, 101]⟩), (.int .u8 70, .string ⟨#[101, 110, 100]⟩)] 6 ?_
 clear H; intro _ _ H; dsimp only [setL, delL] at H
 iterate 2 refine RW.v ?_
 refine RW.lkL H 0 (.string ⟨#[108, 101, 102, 116]⟩) ?_
 refine RW.v ?_
 refine RW.nil ?_
 replace H := (H.del 0)
 dsimp only [setL, delL] at H
 refine W.rg [(3, .string ⟨#[108, 101, 102, 116]⟩)] fun TA => ?_
 refine W.seq ?_
 refine W.seq (W.region ?_)
 refine RW.v ?_
 refine RW.valE (v' := .bool false) (by kernel_rfl) (by kernel_rfl) rfl (by kernel_rfl) (by kernel_rfl) ?_
 refine RW.nil ?_
 refine W.c0 ?_
 refine W.skip ?_
 refine W.seq (W.region ?_)
 refine RW.cl ?_
 refine ((table_wc (Lies.start H.gn H.abs)).mono ?_)
 rintro _ _ ⟨mb2, rfl, K3⟩
 have H : Lies G (A) F _ (.at_ mb2 (.ents tabE 27) :: (L)) := Lies.then H K3
 refine RW.v ?_
 refine RW.lkL H 0 (.int .i64 2097167) ?_
 refine RW.v ?_
 refine RW.nil ?_
 replace H := (H.del 0)
 dsimp only [setL, delL] at H
 refine W.ret ?_
 refine endG (by rfl) (by exact resL_tmp rfl) ?_
 exact ⟨rfl, H⟩
set_option maxHeartbeats 4000000 in
theorem letter_72 (H : Lies G A F σ L) : WC G Tryd.prog 60 #[.int .u8 72] σ fun r σ' => r = .int .i64 2097169 ∧ Lies G A F σ' L := by
 refine WC.enter (fn := Tryd.f60) Tryd.func60 rfl ?_
 refine W.rg [(0, .int .u8 72)] fun TA => ?_
 refine W.seq (W.region ?_)
 refine RW.v ?_
 refine RW.nil ?_
 refine W.rg [(0, .int .u8 72)] fun TA => ?_
 refine W.seq (W.region ?_)
 refine RW.mkM H ?_
 clear H; intro _ b1 _ H
 refine RW.upL H 0 [(.int .u8 65, .string ⟨#[117, 112]⟩)] 1 ?_
 clear H; intro _ _ H; dsimp only [setL, delL] at H
 refine RW.upL H 0 [(.int .u8 65, .string ⟨#[117, 112]⟩), (.int .u8 66, .string ⟨#[100, 111, 119, 110]⟩)] 2 ?_
 clear H; intro _ _ H; dsimp only [setL, delL] at H
 refine RW.upL H 0 [(.int .u8 65, .string ⟨#[117, 112]⟩), (.int .u8 66, .string ⟨#[100, 111, 119, 110]⟩), (.int .u8 67, .string ⟨#[114, 105, 103, 104, 116]⟩)] 3 ?_
 clear H; intro _ _ H; dsimp only [setL, delL] at H
 refine RW.upL H 0 [(.int .u8 65, .string ⟨#[117, 112]⟩), (.int .u8 66, .string ⟨#[100, 111, 119, 110]⟩), (.int .u8 67, .string ⟨#[114, 105, 103, 104, 116]⟩), (.int .u8 68, .string ⟨#[108, 101, 102, 116]⟩)] 4 ?_
 clear H; intro _ _ H; dsimp only [setL, delL] at H
 refine RW.upL H 0 [(.int .u8 65, .string ⟨#[117, 112]⟩), (.int .u8 66, .string ⟨#[100, 111, 119, 110]⟩), (.int .u8 67, .string ⟨#[114, 105, 103, 104, 116]⟩), (.int .u8 68, .string ⟨#[108, 101, 102, 116]⟩), (.int .u8 72, .string ⟨#[104, 111, 109, 101]⟩)] 5 ?_
 clear H; intro _ _ H; dsimp only [setL, delL] at H
 refine RW.upL H 0 [(.int .u8 65, .string ⟨#[117, 112]⟩), (.int .u8 66, .string ⟨#[100, 111, 119, 110]⟩), (.int .u8 67, .string ⟨#[114, 105, 103, 104, 116]⟩), (.int .u8 68, .string ⟨#[108, 101, 102, 116]⟩), (.int .u8 72, .string ⟨#[104, 111, 109, 101]⟩), (.int .u8 70, .string ⟨#[101, 110, 100]⟩)] 6 ?_
 clear H; intro _ _ H; dsimp only [setL, delL] at H
 iterate 2 refine RW.v ?_
 refine RW.lkL H 0 (.string ⟨#[104, 111, 109, 101]⟩) ?_
 refine RW.v ?_
 refine RW.nil ?_
 replace H := (H.del 0)
 dsimp only [setL, delL] at H
 refine W.rg [(3, .string ⟨#[104, 111, 109, 101]⟩)] fun TA => ?_
 refine W.seq ?_
 refine W.seq (W.region ?_)
 refine RW.v ?_
 refine RW.valE (v' := .bool false) (by kernel_rfl) (by kernel_rfl) rfl (by kernel_rfl) (by kernel_rfl) ?_
 refine RW.nil ?_
 refine W.c0 ?_
 refine W.skip ?_
 refine W.seq (W.region ?_)
 refine RW.cl ?_
 refine ((table_wc (Lies.start H.gn H.abs)).mono ?_)
 rintro _ _ ⟨mb2, rfl, K3⟩
 have H : Lies G (A) F _ (.at_ mb2 (.ents tabE 27) :: (L)) := Lies.then H K3
 refine RW.v ?_
 refine RW.lkL H 0 (.int .i64 2097169) ?_
 refine RW.v ?_
 refine RW.nil ?_
 replace H := (H.del 0)
 dsimp only [setL, delL] at H
 refine W.ret ?_
 refine endG (by rfl) (by exact resL_tmp rfl) ?_
 exact ⟨rfl, H⟩
set_option maxHeartbeats 4000000 in
theorem letter_70 (H : Lies G A F σ L) : WC G Tryd.prog 60 #[.int .u8 70] σ fun r σ' => r = .int .i64 2097170 ∧ Lies G A F σ' L := by
 refine WC.enter (fn := Tryd.f60) Tryd.func60 rfl ?_
 refine W.rg [(0, .int .u8 70)] fun TA => ?_
 refine W.seq (W.region ?_)
 refine RW.v ?_
 refine RW.nil ?_
 refine W.rg [(0, .int .u8 70)] fun TA => ?_
 refine W.seq (W.region ?_)
 refine RW.mkM H ?_
 clear H; intro _ b1 _ H
 refine RW.upL H 0 [(.int .u8 65, .string ⟨#[117, 112]⟩)] 1 ?_
 clear H; intro _ _ H; dsimp only [setL, delL] at H
 refine RW.upL H 0 [(.int .u8 65, .string ⟨#[117, 112]⟩), (.int .u8 66, .string ⟨#[100, 111, 119, 110]⟩)] 2 ?_
 clear H; intro _ _ H; dsimp only [setL, delL] at H
 refine RW.upL H 0 [(.int .u8 65, .string ⟨#[117, 112]⟩), (.int .u8 66, .string ⟨#[100, 111, 119, 110]⟩), (.int .u8 67, .string ⟨#[114, 105, 103, 104, 116]⟩)] 3 ?_
 clear H; intro _ _ H; dsimp only [setL, delL] at H
 refine RW.upL H 0 [(.int .u8 65, .string ⟨#[117, 112]⟩), (.int .u8 66, .string ⟨#[100, 111, 119, 110]⟩), (.int .u8 67, .string ⟨#[114, 105, 103, 104, 116]⟩), (.int .u8 68, .string ⟨#[108, 101, 102, 116]⟩)] 4 ?_
 clear H; intro _ _ H; dsimp only [setL, delL] at H
 refine RW.upL H 0 [(.int .u8 65, .string ⟨#[117, 112]⟩), (.int .u8 66, .string ⟨#[100, 111, 119, 110]⟩), (.int .u8 67, .string ⟨#[114, 105, 103, 104, 116]⟩), (.int .u8 68, .string ⟨#[108, 101, 102, 116]⟩), (.int .u8 72, .string ⟨#[104, 111, 109, 101]⟩)] 5 ?_
 clear H; intro _ _ H; dsimp only [setL, delL] at H
 refine RW.upL H 0 [(.int .u8 65, .string ⟨#[117, 112]⟩), (.int .u8 66, .string ⟨#[100, 111, 119, 110]⟩), (.int .u8 67, .string ⟨#[114, 105, 103, 104, 116]⟩), (.int .u8 68, .string ⟨#[108, 101, 102, 116]⟩), (.int .u8 72, .string ⟨#[104, 111, 109, 101]⟩), (.int .u8 70, .string ⟨#[101, 110, 100]⟩)] 6 ?_
 clear H; intro _ _ H; dsimp only [setL, delL] at H
 iterate 2 refine RW.v ?_
 refine RW.lkL H 0 (.string ⟨#[101, 110, 100]⟩) ?_
 refine RW.v ?_
 refine RW.nil ?_
 replace H := (H.del 0)
 dsimp only [setL, delL] at H
 refine W.rg [(3, .string ⟨#[101, 110, 100]⟩)] fun TA => ?_
 refine W.seq ?_
 refine W.seq (W.region ?_)
 refine RW.v ?_
 refine RW.valE (v' := .bool false) (by kernel_rfl) (by kernel_rfl) rfl (by kernel_rfl) (by kernel_rfl) ?_
 refine RW.nil ?_
 refine W.c0 ?_
 refine W.skip ?_
 refine W.seq (W.region ?_)
 refine RW.cl ?_
 refine ((table_wc (Lies.start H.gn H.abs)).mono ?_)
 rintro _ _ ⟨mb2, rfl, K3⟩
 have H : Lies G (A) F _ (.at_ mb2 (.ents tabE 27) :: (L)) := Lies.then H K3
 refine RW.v ?_
 refine RW.lkL H 0 (.int .i64 2097170) ?_
 refine RW.v ?_
 refine RW.nil ?_
 replace H := (H.del 0)
 dsimp only [setL, delL] at H
 refine W.ret ?_
 refine endG (by rfl) (by exact resL_tmp rfl) ?_
 exact ⟨rfl, H⟩
set_option maxHeartbeats 4000000 in
theorem letter_wc {c : Nat} (H : Lies G A F σ L) : WC G Tryd.prog 60 #[.int .u8 ((c : Nat) : Int)] σ fun r σ' => r = .int .i64 (letterM c) ∧ Lies G A F σ' L := by
 by_cases k1 : c = 65
 ·subst k1
  exact letter_65 H
 by_cases k2 : c = 66
 ·subst k2
  exact letter_66 H
 by_cases k3 : c = 67
 ·subst k3
  exact letter_67 H
 by_cases k4 : c = 68
 ·subst k4
  exact letter_68 H
 by_cases k5 : c = 72
 ·subst k5
  exact letter_72 H
 by_cases k6 : c = 70
 ·subst k6
  exact letter_70 H
 refine WC.enter (fn := Tryd.f60) Tryd.func60 rfl ?_
 refine W.rg [(0, .int .u8 ((c : Nat) : Int))] fun TA => ?_
 refine W.seq (W.region ?_)
 refine RW.v ?_
 refine RW.nil ?_
 refine W.rg [(0, .int .u8 ((c : Nat) : Int))] fun TA => ?_
 refine W.seq (W.region ?_)
 refine RW.mkM H ?_
 clear H; intro _ b1 _ H
 refine RW.upL H 0 [(.int .u8 65, .string ⟨#[117, 112]⟩)] 1 ?_
 clear H; intro _ _ H; dsimp only [setL, delL] at H
 refine RW.upL H 0 [(.int .u8 65, .string ⟨#[117, 112]⟩), (.int .u8 66, .string ⟨#[100, 111, 119, 110]⟩)] 2 ?_
 clear H; intro _ _ H; dsimp only [setL, delL] at H
 refine RW.upL H 0 [(.int .u8 65, .string ⟨#[117, 112]⟩), (.int .u8 66, .string ⟨#[100, 111, 119, 110]⟩), (.int .u8 67, .string ⟨#[114, 105, 103, 104, 116]⟩)] 3 ?_
 clear H; intro _ _ H; dsimp only [setL, delL] at H
 refine RW.upL H 0 [(.int .u8 65, .string ⟨#[117, 112]⟩), (.int .u8 66, .string ⟨#[100, 111, 119, 110]⟩), (.int .u8 67, .string ⟨#[114, 105, 103, 104, 116]⟩), (.int .u8 68, .string ⟨#[108, 101, 102, 116]⟩)] 4 ?_
 clear H; intro _ _ H; dsimp only [setL, delL] at H
 refine RW.upL H 0 [(.int .u8 65, .string ⟨#[117, 112]⟩), (.int .u8 66, .string ⟨#[100, 111, 119, 110]⟩), (.int .u8 67, .string ⟨#[114, 105, 103, 104, 116]⟩), (.int .u8 68, .string ⟨#[108, 101, 102, 116]⟩), (.int .u8 72, .string ⟨#[104, 111, 109, 101]⟩)] 5 ?_
 clear H; intro _ _ H; dsimp only [setL, delL] at H
 refine RW.upL H 0 [(.int .u8 65, .string ⟨#[117, 112]⟩), (.int .u8 66, .string ⟨#[100, 111, 119, 110]⟩), (.int .u8 67, .string ⟨#[114, 105, 103, 104, 116]⟩), (.int .u8 68, .string ⟨#[108, 101, 102, 116]⟩), (.int .u8 72, .string ⟨#[104, 111, 109, 101]⟩), (.int .u8 70, .string ⟨#[101, 110, 100]⟩)] 6 ?_
 clear H; intro _ _ H; dsimp only [setL, delL] at H
 iterate 2 refine RW.v ?_
 refine RW.lkL H 0 (.string ByteArray.empty) ?_ (hv := letter_miss k1 k2 k3 k4 k5 k6)
 refine RW.v ?_
 refine RW.nil ?_
 replace H := (H.del 0)
 dsimp only [setL, delL] at H
 refine W.rg [(3, .string ByteArray.empty)] fun TA => ?_
 refine W.seq ?_
 refine W.seq (W.region ?_)
 refine RW.v ?_
 refine RW.valE (v' := .bool true) (by kernel_rfl) (by kernel_rfl) rfl (by kernel_rfl) (by kernel_rfl) ?_
 refine RW.nil ?_
 refine W.c1 ?_
 refine W.seq (W.region ?_)
 refine RW.v ?_
 refine RW.nil ?_
 refine W.ret ?_
 refine seqQ_ret ?_
 refine endG (by rfl) (by exact resL_tmp rfl) ?_
 have ec : letterM c = -1 := by unfold letterM; rw [if_neg k1, if_neg k2, if_neg k3, if_neg k4, if_neg k5, if_neg k6]
 rw [ec]
 exact ⟨rfl, H⟩
set_option maxHeartbeats 16000000 in
theorem num_wc {bs : List UInt8} (H : Lies G A F σ L) : WC G Tryd.prog 78 #[.string ⟨bs.toArray⟩] σ fun r σ' => r = .int .i64 (numM bs) ∧ Lies G A F σ' L := by
 refine WC.enter (fn := Tryd.f78) Tryd.func78 rfl ?_
 refine W.rg [(0, .string ⟨bs.toArray⟩)] fun TA => ?_
 refine W.seq (W.region ?_)
 refine RW.v ?_
 refine RW.nil ?_
 refine W.rg [(0, .string ⟨bs.toArray⟩)] fun TA => ?_
 refine W.seq (W.region ?_)
 refine RW.val (v := .agg #[.string ⟨#[49]⟩, .string ⟨#[104, 111, 109, 101]⟩, .string ⟨#[50]⟩, .string ⟨#[105, 110, 115, 101, 114, 116]⟩, .string ⟨#[51]⟩, .string ⟨#[100, 101, 108, 101, 116, 101]⟩, .string ⟨#[52]⟩, .string ⟨#[101, 110, 100]⟩, .string ⟨#[53]⟩, .string ⟨#[112, 114, 105, 111, 114]⟩, .string ⟨#[54]⟩, .string ⟨#[110, 101, 120, 116]⟩, .string ⟨#[49, 49]⟩, .string ⟨#[102, 49]⟩, .string ⟨#[49, 50]⟩, .string ⟨#[102, 50]⟩, .string ⟨#[49, 51]⟩, .string ⟨#[102, 51]⟩, .string ⟨#[49, 52]⟩, .string ⟨#[102, 52]⟩, .string ⟨#[49, 53]⟩, .string ⟨#[102, 53]⟩, .string ⟨#[49, 55]⟩, .string ⟨#[102, 54]⟩, .string ⟨#[49, 56]⟩, .string ⟨#[102, 55]⟩, .string ⟨#[49, 57]⟩, .string ⟨#[102, 56]⟩, .string ⟨#[50, 48]⟩, .string ⟨#[102, 57]⟩, .string ⟨#[50, 49]⟩, .string ⟨#[102, 49, 48]⟩, .string ⟨#[50, 51]⟩, .string ⟨#[102, 49, 49]⟩, .string ⟨#[50, 52]⟩, .string ⟨#[102, 49, 50]⟩]) (by kernel_rfl) (by kernel_rfl) (by kernel_rfl) (by kernel_rfl) ?_
 refine RW.mk H (.row ⟨[.string ByteArray.empty, .string ByteArray.empty, .string ByteArray.empty, .string ByteArray.empty, .string ByteArray.empty, .string ByteArray.empty, .string ByteArray.empty, .string ByteArray.empty, .string ByteArray.empty, .string ByteArray.empty, .string ByteArray.empty, .string ByteArray.empty, .string ByteArray.empty, .string ByteArray.empty, .string ByteArray.empty, .string ByteArray.empty, .string ByteArray.empty, .string ByteArray.empty, .string ByteArray.empty, .string ByteArray.empty, .string ByteArray.empty, .string ByteArray.empty, .string ByteArray.empty, .string ByteArray.empty, .string ByteArray.empty, .string ByteArray.empty, .string ByteArray.empty, .string ByteArray.empty, .string ByteArray.empty, .string ByteArray.empty, .string ByteArray.empty, .string ByteArray.empty, .string ByteArray.empty, .string ByteArray.empty, .string ByteArray.empty, .string ByteArray.empty], 109, false⟩) ?_
 clear H; intro _ b1 _ H
 refine RW.st H 0 [.string ⟨#[49]⟩, .string ⟨#[104, 111, 109, 101]⟩, .string ⟨#[50]⟩, .string ⟨#[105, 110, 115, 101, 114, 116]⟩, .string ⟨#[51]⟩, .string ⟨#[100, 101, 108, 101, 116, 101]⟩, .string ⟨#[52]⟩, .string ⟨#[101, 110, 100]⟩, .string ⟨#[53]⟩, .string ⟨#[112, 114, 105, 111, 114]⟩, .string ⟨#[54]⟩, .string ⟨#[110, 101, 120, 116]⟩, .string ⟨#[49, 49]⟩, .string ⟨#[102, 49]⟩, .string ⟨#[49, 50]⟩, .string ⟨#[102, 50]⟩, .string ⟨#[49, 51]⟩, .string ⟨#[102, 51]⟩, .string ⟨#[49, 52]⟩, .string ⟨#[102, 52]⟩, .string ⟨#[49, 53]⟩, .string ⟨#[102, 53]⟩, .string ⟨#[49, 55]⟩, .string ⟨#[102, 54]⟩, .string ⟨#[49, 56]⟩, .string ⟨#[102, 55]⟩, .string ⟨#[49, 57]⟩, .string ⟨#[102, 56]⟩, .string ⟨#[50, 48]⟩, .string ⟨#[102, 57]⟩, .string ⟨#[50, 49]⟩, .string ⟨#[102, 49, 48]⟩, .string ⟨#[50, 51]⟩, .string ⟨#[102, 49, 49]⟩, .string ⟨#[50, 52]⟩, .string ⟨#[102, 49, 50]⟩] [.string ⟨#[49]⟩, .string ⟨#[104, 111, 109, 101]⟩, .string ⟨#[50]⟩, .string ⟨#[105, 110, 115, 101, 114, 116]⟩, .string ⟨#[51]⟩, .string ⟨#[100, 101, 108, 101, 116, 101]⟩, .string ⟨#[52]⟩, .string ⟨#[101, 110, 100]⟩, .string ⟨#[53]⟩, .string ⟨#[112, 114, 105, 111, 114]⟩, .string ⟨#[54]⟩, .string ⟨#[110, 101, 120, 116]⟩, .string ⟨#[49, 49]⟩, .string ⟨#[102, 49]⟩, .string ⟨#[49, 50]⟩, .string ⟨#[102, 50]⟩, .string ⟨#[49, 51]⟩, .string ⟨#[102, 51]⟩, .string ⟨#[49, 52]⟩, .string ⟨#[102, 52]⟩, .string ⟨#[49, 53]⟩, .string ⟨#[102, 53]⟩, .string ⟨#[49, 55]⟩, .string ⟨#[102, 54]⟩, .string ⟨#[49, 56]⟩, .string ⟨#[102, 55]⟩, .string ⟨#[49, 57]⟩, .string ⟨#[102, 56]⟩, .string ⟨#[50, 48]⟩, .string ⟨#[102, 57]⟩, .string ⟨#[50, 49]⟩, .string ⟨#[102, 49, 48]⟩, .string ⟨#[50, 51]⟩, .string ⟨#[102, 49, 49]⟩, .string ⟨#[50, 52]⟩, .string ⟨#[102, 49, 50]⟩] ?_
 clear H; intro _ _ H; dsimp only [setL, delL] at H
 refine RW.nil ?_
 refine W.rg [(0, .string ⟨bs.toArray⟩), (3, .pointer (some ⟨b1, 0, none⟩))] fun TA => ?_
 refine W.seq ?_
 refine W.seq (W.region ?_)
 refine RW.v ?_
 refine RW.nil ?_
 refine W.rg [(0, .string ⟨bs.toArray⟩), (3, .pointer (some ⟨b1, 0, none⟩)), (4, .int .i64 0)] fun TA => ?_
 refine W.block ?_
 refine W.unroll (WL.once ?_)
 refine W.seq ?_
 refine W.seq (W.region ?_)
 iterate 2 refine RW.v ?_
 refine RW.nil ?_
 refine W.c1 ?_
 refine W.skip ?_
 refine W.seq ?_
 refine W.block ?_
 refine W.seq (W.region ?_)
 iterate 2 refine RW.v ?_
 refine RW.ld H 0 1 ?_
 refine RW.v ?_
 refine RW.vop (v := .bool (([49] : List UInt8) == bs)) (by kernel_rfl) (by kernel_rfl) (vop_sEq rfl rfl rfl rfl) (by kernel_rfl) ?_
 refine RW.nil ?_
 refine W.rg [(0, .string ⟨bs.toArray⟩), (3, .pointer (some ⟨b1, 0, none⟩)), (4, .int .i64 0), (14, .bool (([49] : List UInt8) == bs))] fun TA => ?_
 refine W.cond rfl (fun hc2 => ?_) (fun hc2 => ?_)
 ·have hc2b := hc2
  have hc2 := eq_of_beq hc2
  refine W.seq ?_
  refine W.drawn (by kernel_rfl) (by kernel_rfl) H.gn ?_
  have H3 := H
  refine RW.cl ?_
  refine ((table_wc (Lies.start H3.gn H3.abs)).mono ?_)
  rintro _ _ ⟨mb4, rfl, K5⟩
  have H6 : Lies G (A) F _ (.at_ mb4 (.ents tabE 27) :: .at_ b1 (.row ⟨[.string ⟨#[49]⟩, .string ⟨#[104, 111, 109, 101]⟩, .string ⟨#[50]⟩, .string ⟨#[105, 110, 115, 101, 114, 116]⟩, .string ⟨#[51]⟩, .string ⟨#[100, 101, 108, 101, 116, 101]⟩, .string ⟨#[52]⟩, .string ⟨#[101, 110, 100]⟩, .string ⟨#[53]⟩, .string ⟨#[112, 114, 105, 111, 114]⟩, .string ⟨#[54]⟩, .string ⟨#[110, 101, 120, 116]⟩, .string ⟨#[49, 49]⟩, .string ⟨#[102, 49]⟩, .string ⟨#[49, 50]⟩, .string ⟨#[102, 50]⟩, .string ⟨#[49, 51]⟩, .string ⟨#[102, 51]⟩, .string ⟨#[49, 52]⟩, .string ⟨#[102, 52]⟩, .string ⟨#[49, 53]⟩, .string ⟨#[102, 53]⟩, .string ⟨#[49, 55]⟩, .string ⟨#[102, 54]⟩, .string ⟨#[49, 56]⟩, .string ⟨#[102, 55]⟩, .string ⟨#[49, 57]⟩, .string ⟨#[102, 56]⟩, .string ⟨#[50, 48]⟩, .string ⟨#[102, 57]⟩, .string ⟨#[50, 49]⟩, .string ⟨#[102, 49, 48]⟩, .string ⟨#[50, 51]⟩, .string ⟨#[102, 49, 49]⟩, .string ⟨#[50, 52]⟩, .string ⟨#[102, 49, 50]⟩], 109, false⟩) :: (L)) := Lies.then H3 K5
  iterate 3 refine RW.v ?_
  refine RW.ld H6 1 1 ?_
  refine RW.lkL H6 0 (.int .i64 2097169) ?_
  refine RW.v ?_
  refine RW.nil ?_
  refine ⟨⟨by kernel_rfl, ⟨trivial, trivial, trivial, trivial, dyn_row (H6.get 1 rfl) (H6.get 1 rfl) ⟨fun _ => H3.get 0 rfl, fun h => Bool.noConfusion h, fun h => Bool.noConfusion h, fun h => Bool.noConfusion h, fun h => Bool.noConfusion h, fun _ => H6.get 1 rfl, fun h => Bool.noConfusion h, trivial⟩, trivial, trivial, trivial⟩⟩, ?_⟩
  replace H := H6
  clear H3 H6
  replace H := ((H.del 1).del 0)
  dsimp only [setL, delL] at H
  refine W.ret ?_
  refine blkQ_ret ?_
  refine seqQ_ret ?_
  refine onceQ_ret ?_
  refine blkQ_ret ?_
  refine seqQ_ret ?_
  refine endG (by rfl) (by exact resL_tmp rfl) ?_
  have ec : numM bs = 2097169 := by unfold numM; repeat (first | rw [if_pos (by assumption)] | rw [if_neg (by assumption)])
  rw [ec]
  exact ⟨rfl, H⟩
 ·have hc2b := hc2
  have hc2 := ne_of_beq_false hc2
  refine W.skip ?_
  refine blkQ_normal ?_
  refine W.region ?_
  iterate 3 refine RW.v ?_
  refine RW.nil ?_
  refine WL.once ?_
  refine W.rg [(0, .string ⟨bs.toArray⟩), (3, .pointer (some ⟨b1, 0, none⟩)), (4, .int .i64 2)] fun TA => ?_
  refine W.seq ?_
  refine W.seq (W.region ?_)
  iterate 2 refine RW.v ?_
  refine RW.nil ?_
  refine W.c1 ?_
  refine W.skip ?_
  refine W.seq ?_
  refine W.block ?_
  refine W.seq (W.region ?_)
  iterate 2 refine RW.v ?_
  refine RW.ld H 0 1 ?_
  refine RW.v ?_
  refine RW.vop (v := .bool (([50] : List UInt8) == bs)) (by kernel_rfl) (by kernel_rfl) (vop_sEq rfl rfl rfl rfl) (by kernel_rfl) ?_
  refine RW.nil ?_
  refine W.rg [(0, .string ⟨bs.toArray⟩), (3, .pointer (some ⟨b1, 0, none⟩)), (4, .int .i64 2), (14, .bool (([50] : List UInt8) == bs))] fun TA => ?_
  refine W.cond rfl (fun hc7 => ?_) (fun hc7 => ?_)
  ·have hc7b := hc7
   have hc7 := eq_of_beq hc7
   refine W.seq ?_
   refine W.drawn (by kernel_rfl) (by kernel_rfl) H.gn ?_
   have H8 := H
   refine RW.cl ?_
   refine ((table_wc (Lies.start H8.gn H8.abs)).mono ?_)
   rintro _ _ ⟨mb9, rfl, K10⟩
   have H11 : Lies G (A) F _ (.at_ mb9 (.ents tabE 27) :: .at_ b1 (.row ⟨[.string ⟨#[49]⟩, .string ⟨#[104, 111, 109, 101]⟩, .string ⟨#[50]⟩, .string ⟨#[105, 110, 115, 101, 114, 116]⟩, .string ⟨#[51]⟩, .string ⟨#[100, 101, 108, 101, 116, 101]⟩, .string ⟨#[52]⟩, .string ⟨#[101, 110, 100]⟩, .string ⟨#[53]⟩, .string ⟨#[112, 114, 105, 111, 114]⟩, .string ⟨#[54]⟩, .string ⟨#[110, 101, 120, 116]⟩, .string ⟨#[49, 49]⟩, .string ⟨#[102, 49]⟩, .string ⟨#[49, 50]⟩, .string ⟨#[102, 50]⟩, .string ⟨#[49, 51]⟩, .string ⟨#[102, 51]⟩, .string ⟨#[49, 52]⟩, .string ⟨#[102, 52]⟩, .string ⟨#[49, 53]⟩, .string ⟨#[102, 53]⟩, .string ⟨#[49, 55]⟩, .string ⟨#[102, 54]⟩, .string ⟨#[49, 56]⟩, .string ⟨#[102, 55]⟩, .string ⟨#[49, 57]⟩, .string ⟨#[102, 56]⟩, .string ⟨#[50, 48]⟩, .string ⟨#[102, 57]⟩, .string ⟨#[50, 49]⟩, .string ⟨#[102, 49, 48]⟩, .string ⟨#[50, 51]⟩, .string ⟨#[102, 49, 49]⟩, .string ⟨#[50, 52]⟩, .string ⟨#[102, 49, 50]⟩], 109, false⟩) :: (L)) := Lies.then H8 K10
   iterate 3 refine RW.v ?_
   refine RW.ld H11 1 1 ?_
   refine RW.lkL H11 0 (.int .i64 2097173) ?_
   refine RW.v ?_
   refine RW.nil ?_
   refine ⟨⟨by kernel_rfl, ⟨trivial, trivial, trivial, trivial, dyn_row (H11.get 1 rfl) (H11.get 1 rfl) ⟨fun _ => H8.get 0 rfl, fun h => Bool.noConfusion h, fun h => Bool.noConfusion h, fun h => Bool.noConfusion h, fun h => Bool.noConfusion h, fun _ => H11.get 1 rfl, fun h => Bool.noConfusion h, trivial⟩, trivial, trivial, trivial⟩⟩, ?_⟩
   replace H := H11
   clear H8 H11
   replace H := ((H.del 1).del 0)
   dsimp only [setL, delL] at H
   refine W.ret ?_
   refine blkQ_ret ?_
   refine seqQ_ret ?_
   refine onceQ_ret ?_
   refine blkQ_ret ?_
   refine seqQ_ret ?_
   refine endG (by rfl) (by exact resL_tmp rfl) ?_
   have ec : numM bs = 2097173 := by unfold numM; repeat (first | rw [if_pos (by assumption)] | rw [if_neg (by assumption)])
   rw [ec]
   exact ⟨rfl, H⟩
  ·have hc7b := hc7
   have hc7 := ne_of_beq_false hc7
   refine W.skip ?_
   refine blkQ_normal ?_
   refine W.region ?_
   iterate 3 refine RW.v ?_
   refine RW.nil ?_
   refine WL.once ?_
   refine W.rg [(0, .string ⟨bs.toArray⟩), (3, .pointer (some ⟨b1, 0, none⟩)), (4, .int .i64 4)] fun TA => ?_
   refine W.seq ?_
   refine W.seq (W.region ?_)
   iterate 2 refine RW.v ?_
   refine RW.nil ?_
   refine W.c1 ?_
   refine W.skip ?_
   refine W.seq ?_
   refine W.block ?_
   refine W.seq (W.region ?_)
   iterate 2 refine RW.v ?_
   refine RW.ld H 0 1 ?_
   refine RW.v ?_
   refine RW.vop (v := .bool (([51] : List UInt8) == bs)) (by kernel_rfl) (by kernel_rfl) (vop_sEq rfl rfl rfl rfl) (by kernel_rfl) ?_
   refine RW.nil ?_
   refine W.rg [(0, .string ⟨bs.toArray⟩), (3, .pointer (some ⟨b1, 0, none⟩)), (4, .int .i64 4), (14, .bool (([51] : List UInt8) == bs))] fun TA => ?_
   refine W.cond rfl (fun hc12 => ?_) (fun hc12 => ?_)
   ·have hc12b := hc12
    have hc12 := eq_of_beq hc12
    refine W.seq ?_
    refine W.drawn (by kernel_rfl) (by kernel_rfl) H.gn ?_
    have H13 := H
    refine RW.cl ?_
    refine ((table_wc (Lies.start H13.gn H13.abs)).mono ?_)
    rintro _ _ ⟨mb14, rfl, K15⟩
    have H16 : Lies G (A) F _ (.at_ mb14 (.ents tabE 27) :: .at_ b1 (.row ⟨[.string ⟨#[49]⟩, .string ⟨#[104, 111, 109, 101]⟩, .string ⟨#[50]⟩, .string ⟨#[105, 110, 115, 101, 114, 116]⟩, .string ⟨#[51]⟩, .string ⟨#[100, 101, 108, 101, 116, 101]⟩, .string ⟨#[52]⟩, .string ⟨#[101, 110, 100]⟩, .string ⟨#[53]⟩, .string ⟨#[112, 114, 105, 111, 114]⟩, .string ⟨#[54]⟩, .string ⟨#[110, 101, 120, 116]⟩, .string ⟨#[49, 49]⟩, .string ⟨#[102, 49]⟩, .string ⟨#[49, 50]⟩, .string ⟨#[102, 50]⟩, .string ⟨#[49, 51]⟩, .string ⟨#[102, 51]⟩, .string ⟨#[49, 52]⟩, .string ⟨#[102, 52]⟩, .string ⟨#[49, 53]⟩, .string ⟨#[102, 53]⟩, .string ⟨#[49, 55]⟩, .string ⟨#[102, 54]⟩, .string ⟨#[49, 56]⟩, .string ⟨#[102, 55]⟩, .string ⟨#[49, 57]⟩, .string ⟨#[102, 56]⟩, .string ⟨#[50, 48]⟩, .string ⟨#[102, 57]⟩, .string ⟨#[50, 49]⟩, .string ⟨#[102, 49, 48]⟩, .string ⟨#[50, 51]⟩, .string ⟨#[102, 49, 49]⟩, .string ⟨#[50, 52]⟩, .string ⟨#[102, 49, 50]⟩], 109, false⟩) :: (L)) := Lies.then H13 K15
    iterate 3 refine RW.v ?_
    refine RW.ld H16 1 1 ?_
    refine RW.lkL H16 0 (.int .i64 2097174) ?_
    refine RW.v ?_
    refine RW.nil ?_
    refine ⟨⟨by kernel_rfl, ⟨trivial, trivial, trivial, trivial, dyn_row (H16.get 1 rfl) (H16.get 1 rfl) ⟨fun _ => H13.get 0 rfl, fun h => Bool.noConfusion h, fun h => Bool.noConfusion h, fun h => Bool.noConfusion h, fun h => Bool.noConfusion h, fun _ => H16.get 1 rfl, fun h => Bool.noConfusion h, trivial⟩, trivial, trivial, trivial⟩⟩, ?_⟩
    replace H := H16
    clear H13 H16
    replace H := ((H.del 1).del 0)
    dsimp only [setL, delL] at H
    refine W.ret ?_
    refine blkQ_ret ?_
    refine seqQ_ret ?_
    refine onceQ_ret ?_
    refine blkQ_ret ?_
    refine seqQ_ret ?_
    refine endG (by rfl) (by exact resL_tmp rfl) ?_
    have ec : numM bs = 2097174 := by unfold numM; repeat (first | rw [if_pos (by assumption)] | rw [if_neg (by assumption)])
    rw [ec]
    exact ⟨rfl, H⟩
   ·have hc12b := hc12
    have hc12 := ne_of_beq_false hc12
    refine W.skip ?_
    refine blkQ_normal ?_
    refine W.region ?_
    iterate 3 refine RW.v ?_
    refine RW.nil ?_
    refine WL.once ?_
    refine W.rg [(0, .string ⟨bs.toArray⟩), (3, .pointer (some ⟨b1, 0, none⟩)), (4, .int .i64 6)] fun TA => ?_
    refine W.seq ?_
    refine W.seq (W.region ?_)
    iterate 2 refine RW.v ?_
    refine RW.nil ?_
    refine W.c1 ?_
    refine W.skip ?_
    refine W.seq ?_
    refine W.block ?_
    refine W.seq (W.region ?_)
    iterate 2 refine RW.v ?_
    refine RW.ld H 0 1 ?_
    refine RW.v ?_
    refine RW.vop (v := .bool (([52] : List UInt8) == bs)) (by kernel_rfl) (by kernel_rfl) (vop_sEq rfl rfl rfl rfl) (by kernel_rfl) ?_
    refine RW.nil ?_
    refine W.rg [(0, .string ⟨bs.toArray⟩), (3, .pointer (some ⟨b1, 0, none⟩)), (4, .int .i64 6), (14, .bool (([52] : List UInt8) == bs))] fun TA => ?_
    refine W.cond rfl (fun hc17 => ?_) (fun hc17 => ?_)
    ·have hc17b := hc17
     have hc17 := eq_of_beq hc17
     refine W.seq ?_
     refine W.drawn (by kernel_rfl) (by kernel_rfl) H.gn ?_
     have H18 := H
     refine RW.cl ?_
     refine ((table_wc (Lies.start H18.gn H18.abs)).mono ?_)
     rintro _ _ ⟨mb19, rfl, K20⟩
     have H21 : Lies G (A) F _ (.at_ mb19 (.ents tabE 27) :: .at_ b1 (.row ⟨[.string ⟨#[49]⟩, .string ⟨#[104, 111, 109, 101]⟩, .string ⟨#[50]⟩, .string ⟨#[105, 110, 115, 101, 114, 116]⟩, .string ⟨#[51]⟩, .string ⟨#[100, 101, 108, 101, 116, 101]⟩, .string ⟨#[52]⟩, .string ⟨#[101, 110, 100]⟩, .string ⟨#[53]⟩, .string ⟨#[112, 114, 105, 111, 114]⟩, .string ⟨#[54]⟩, .string ⟨#[110, 101, 120, 116]⟩, .string ⟨#[49, 49]⟩, .string ⟨#[102, 49]⟩, .string ⟨#[49, 50]⟩, .string ⟨#[102, 50]⟩, .string ⟨#[49, 51]⟩, .string ⟨#[102, 51]⟩, .string ⟨#[49, 52]⟩, .string ⟨#[102, 52]⟩, .string ⟨#[49, 53]⟩, .string ⟨#[102, 53]⟩, .string ⟨#[49, 55]⟩, .string ⟨#[102, 54]⟩, .string ⟨#[49, 56]⟩, .string ⟨#[102, 55]⟩, .string ⟨#[49, 57]⟩, .string ⟨#[102, 56]⟩, .string ⟨#[50, 48]⟩, .string ⟨#[102, 57]⟩, .string ⟨#[50, 49]⟩, .string ⟨#[102, 49, 48]⟩, .string ⟨#[50, 51]⟩, .string ⟨#[102, 49, 49]⟩, .string ⟨#[50, 52]⟩, .string ⟨#[102, 49, 50]⟩], 109, false⟩) :: (L)) := Lies.then H18 K20
     iterate 3 refine RW.v ?_
     refine RW.ld H21 1 1 ?_
     refine RW.lkL H21 0 (.int .i64 2097170) ?_
     refine RW.v ?_
     refine RW.nil ?_
     refine ⟨⟨by kernel_rfl, ⟨trivial, trivial, trivial, trivial, dyn_row (H21.get 1 rfl) (H21.get 1 rfl) ⟨fun _ => H18.get 0 rfl, fun h => Bool.noConfusion h, fun h => Bool.noConfusion h, fun h => Bool.noConfusion h, fun h => Bool.noConfusion h, fun _ => H21.get 1 rfl, fun h => Bool.noConfusion h, trivial⟩, trivial, trivial, trivial⟩⟩, ?_⟩
     replace H := H21
     clear H18 H21
     replace H := ((H.del 1).del 0)
     dsimp only [setL, delL] at H
     refine W.ret ?_
     refine blkQ_ret ?_
     refine seqQ_ret ?_
     refine onceQ_ret ?_
     refine blkQ_ret ?_
     refine seqQ_ret ?_
     refine endG (by rfl) (by exact resL_tmp rfl) ?_
     have ec : numM bs = 2097170 := by unfold numM; repeat (first | rw [if_pos (by assumption)] | rw [if_neg (by assumption)])
     rw [ec]
     exact ⟨rfl, H⟩
    ·have hc17b := hc17
     have hc17 := ne_of_beq_false hc17
     refine W.skip ?_
     refine blkQ_normal ?_
     refine W.region ?_
     iterate 3 refine RW.v ?_
     refine RW.nil ?_
     refine WL.once ?_
     refine W.rg [(0, .string ⟨bs.toArray⟩), (3, .pointer (some ⟨b1, 0, none⟩)), (4, .int .i64 8)] fun TA => ?_
     refine W.seq ?_
     refine W.seq (W.region ?_)
     iterate 2 refine RW.v ?_
     refine RW.nil ?_
     refine W.c1 ?_
     refine W.skip ?_
     refine W.seq ?_
     refine W.block ?_
     refine W.seq (W.region ?_)
     iterate 2 refine RW.v ?_
     refine RW.ld H 0 1 ?_
     refine RW.v ?_
     refine RW.vop (v := .bool (([53] : List UInt8) == bs)) (by kernel_rfl) (by kernel_rfl) (vop_sEq rfl rfl rfl rfl) (by kernel_rfl) ?_
     refine RW.nil ?_
     refine W.rg [(0, .string ⟨bs.toArray⟩), (3, .pointer (some ⟨b1, 0, none⟩)), (4, .int .i64 8), (14, .bool (([53] : List UInt8) == bs))] fun TA => ?_
     refine W.cond rfl (fun hc22 => ?_) (fun hc22 => ?_)
     ·have hc22b := hc22
      have hc22 := eq_of_beq hc22
      refine W.seq ?_
      refine W.drawn (by kernel_rfl) (by kernel_rfl) H.gn ?_
      have H23 := H
      refine RW.cl ?_
      refine ((table_wc (Lies.start H23.gn H23.abs)).mono ?_)
      rintro _ _ ⟨mb24, rfl, K25⟩
      have H26 : Lies G (A) F _ (.at_ mb24 (.ents tabE 27) :: .at_ b1 (.row ⟨[.string ⟨#[49]⟩, .string ⟨#[104, 111, 109, 101]⟩, .string ⟨#[50]⟩, .string ⟨#[105, 110, 115, 101, 114, 116]⟩, .string ⟨#[51]⟩, .string ⟨#[100, 101, 108, 101, 116, 101]⟩, .string ⟨#[52]⟩, .string ⟨#[101, 110, 100]⟩, .string ⟨#[53]⟩, .string ⟨#[112, 114, 105, 111, 114]⟩, .string ⟨#[54]⟩, .string ⟨#[110, 101, 120, 116]⟩, .string ⟨#[49, 49]⟩, .string ⟨#[102, 49]⟩, .string ⟨#[49, 50]⟩, .string ⟨#[102, 50]⟩, .string ⟨#[49, 51]⟩, .string ⟨#[102, 51]⟩, .string ⟨#[49, 52]⟩, .string ⟨#[102, 52]⟩, .string ⟨#[49, 53]⟩, .string ⟨#[102, 53]⟩, .string ⟨#[49, 55]⟩, .string ⟨#[102, 54]⟩, .string ⟨#[49, 56]⟩, .string ⟨#[102, 55]⟩, .string ⟨#[49, 57]⟩, .string ⟨#[102, 56]⟩, .string ⟨#[50, 48]⟩, .string ⟨#[102, 57]⟩, .string ⟨#[50, 49]⟩, .string ⟨#[102, 49, 48]⟩, .string ⟨#[50, 51]⟩, .string ⟨#[102, 49, 49]⟩, .string ⟨#[50, 52]⟩, .string ⟨#[102, 49, 50]⟩], 109, false⟩) :: (L)) := Lies.then H23 K25
      iterate 3 refine RW.v ?_
      refine RW.ld H26 1 1 ?_
      refine RW.lkL H26 0 (.int .i64 2097171) ?_
      refine RW.v ?_
      refine RW.nil ?_
      refine ⟨⟨by kernel_rfl, ⟨trivial, trivial, trivial, trivial, dyn_row (H26.get 1 rfl) (H26.get 1 rfl) ⟨fun _ => H23.get 0 rfl, fun h => Bool.noConfusion h, fun h => Bool.noConfusion h, fun h => Bool.noConfusion h, fun h => Bool.noConfusion h, fun _ => H26.get 1 rfl, fun h => Bool.noConfusion h, trivial⟩, trivial, trivial, trivial⟩⟩, ?_⟩
      replace H := H26
      clear H23 H26
      replace H := ((H.del 1).del 0)
      dsimp only [setL, delL] at H
      refine W.ret ?_
      refine blkQ_ret ?_
      refine seqQ_ret ?_
      refine onceQ_ret ?_
      refine blkQ_ret ?_
      refine seqQ_ret ?_
      refine endG (by rfl) (by exact resL_tmp rfl) ?_
      have ec : numM bs = 2097171 := by unfold numM; repeat (first | rw [if_pos (by assumption)] | rw [if_neg (by assumption)])
      rw [ec]
      exact ⟨rfl, H⟩
     ·have hc22b := hc22
      have hc22 := ne_of_beq_false hc22
      refine W.skip ?_
      refine blkQ_normal ?_
      refine W.region ?_
      iterate 3 refine RW.v ?_
      refine RW.nil ?_
      refine WL.once ?_
      refine W.rg [(0, .string ⟨bs.toArray⟩), (3, .pointer (some ⟨b1, 0, none⟩)), (4, .int .i64 10)] fun TA => ?_
      refine W.seq ?_
      refine W.seq (W.region ?_)
      iterate 2 refine RW.v ?_
      refine RW.nil ?_
      refine W.c1 ?_
      refine W.skip ?_
      refine W.seq ?_
      refine W.block ?_
      refine W.seq (W.region ?_)
      iterate 2 refine RW.v ?_
      refine RW.ld H 0 1 ?_
      refine RW.v ?_
      refine RW.vop (v := .bool (([54] : List UInt8) == bs)) (by kernel_rfl) (by kernel_rfl) (vop_sEq rfl rfl rfl rfl) (by kernel_rfl) ?_
      refine RW.nil ?_
      refine W.rg [(0, .string ⟨bs.toArray⟩), (3, .pointer (some ⟨b1, 0, none⟩)), (4, .int .i64 10), (14, .bool (([54] : List UInt8) == bs))] fun TA => ?_
      refine W.cond rfl (fun hc27 => ?_) (fun hc27 => ?_)
      ·have hc27b := hc27
       have hc27 := eq_of_beq hc27
       refine W.seq ?_
       refine W.drawn (by kernel_rfl) (by kernel_rfl) H.gn ?_
       have H28 := H
       refine RW.cl ?_
       refine ((table_wc (Lies.start H28.gn H28.abs)).mono ?_)
       rintro _ _ ⟨mb29, rfl, K30⟩
       have H31 : Lies G (A) F _ (.at_ mb29 (.ents tabE 27) :: .at_ b1 (.row ⟨[.string ⟨#[49]⟩, .string ⟨#[104, 111, 109, 101]⟩, .string ⟨#[50]⟩, .string ⟨#[105, 110, 115, 101, 114, 116]⟩, .string ⟨#[51]⟩, .string ⟨#[100, 101, 108, 101, 116, 101]⟩, .string ⟨#[52]⟩, .string ⟨#[101, 110, 100]⟩, .string ⟨#[53]⟩, .string ⟨#[112, 114, 105, 111, 114]⟩, .string ⟨#[54]⟩, .string ⟨#[110, 101, 120, 116]⟩, .string ⟨#[49, 49]⟩, .string ⟨#[102, 49]⟩, .string ⟨#[49, 50]⟩, .string ⟨#[102, 50]⟩, .string ⟨#[49, 51]⟩, .string ⟨#[102, 51]⟩, .string ⟨#[49, 52]⟩, .string ⟨#[102, 52]⟩, .string ⟨#[49, 53]⟩, .string ⟨#[102, 53]⟩, .string ⟨#[49, 55]⟩, .string ⟨#[102, 54]⟩, .string ⟨#[49, 56]⟩, .string ⟨#[102, 55]⟩, .string ⟨#[49, 57]⟩, .string ⟨#[102, 56]⟩, .string ⟨#[50, 48]⟩, .string ⟨#[102, 57]⟩, .string ⟨#[50, 49]⟩, .string ⟨#[102, 49, 48]⟩, .string ⟨#[50, 51]⟩, .string ⟨#[102, 49, 49]⟩, .string ⟨#[50, 52]⟩, .string ⟨#[102, 49, 50]⟩], 109, false⟩) :: (L)) := Lies.then H28 K30
       iterate 3 refine RW.v ?_
       refine RW.ld H31 1 1 ?_
       refine RW.lkL H31 0 (.int .i64 2097172) ?_
       refine RW.v ?_
       refine RW.nil ?_
       refine ⟨⟨by kernel_rfl, ⟨trivial, trivial, trivial, trivial, dyn_row (H31.get 1 rfl) (H31.get 1 rfl) ⟨fun _ => H28.get 0 rfl, fun h => Bool.noConfusion h, fun h => Bool.noConfusion h, fun h => Bool.noConfusion h, fun h => Bool.noConfusion h, fun _ => H31.get 1 rfl, fun h => Bool.noConfusion h, trivial⟩, trivial, trivial, trivial⟩⟩, ?_⟩
       replace H := H31
       clear H28 H31
       replace H := ((H.del 1).del 0)
       dsimp only [setL, delL] at H
       refine W.ret ?_
       refine blkQ_ret ?_
       refine seqQ_ret ?_
       refine onceQ_ret ?_
       refine blkQ_ret ?_
       refine seqQ_ret ?_
       refine endG (by rfl) (by exact resL_tmp rfl) ?_
       have ec : numM bs = 2097172 := by unfold numM; repeat (first | rw [if_pos (by assumption)] | rw [if_neg (by assumption)])
       rw [ec]
       exact ⟨rfl, H⟩
      ·have hc27b := hc27
       have hc27 := ne_of_beq_false hc27
       refine W.skip ?_
       refine blkQ_normal ?_
       refine W.region ?_
       iterate 3 refine RW.v ?_
       refine RW.nil ?_
       refine WL.once ?_
       refine W.rg [(0, .string ⟨bs.toArray⟩), (3, .pointer (some ⟨b1, 0, none⟩)), (4, .int .i64 12)] fun TA => ?_
       refine W.seq ?_
       refine W.seq (W.region ?_)
       iterate 2 refine RW.v ?_
       refine RW.nil ?_
       refine W.c1 ?_
       refine W.skip ?_
       refine W.seq ?_
       refine W.block ?_
       refine W.seq (W.region ?_)
       iterate 2 refine RW.v ?_
       refine RW.ld H 0 1 ?_
       refine RW.v ?_
       refine RW.vop (v := .bool (([49, 49] : List UInt8) == bs)) (by kernel_rfl) (by kernel_rfl) (vop_sEq rfl rfl rfl rfl) (by kernel_rfl) ?_
       refine RW.nil ?_
       refine W.rg [(0, .string ⟨bs.toArray⟩), (3, .pointer (some ⟨b1, 0, none⟩)), (4, .int .i64 12), (14, .bool (([49, 49] : List UInt8) == bs))] fun TA => ?_
       refine W.cond rfl (fun hc32 => ?_) (fun hc32 => ?_)
       ·have hc32b := hc32
        have hc32 := eq_of_beq hc32
        refine W.seq ?_
        refine W.drawn (by kernel_rfl) (by kernel_rfl) H.gn ?_
        have H33 := H
        refine RW.cl ?_
        refine ((table_wc (Lies.start H33.gn H33.abs)).mono ?_)
        rintro _ _ ⟨mb34, rfl, K35⟩
        have H36 : Lies G (A) F _ (.at_ mb34 (.ents tabE 27) :: .at_ b1 (.row ⟨[.string ⟨#[49]⟩, .string ⟨#[104, 111, 109, 101]⟩, .string ⟨#[50]⟩, .string ⟨#[105, 110, 115, 101, 114, 116]⟩, .string ⟨#[51]⟩, .string ⟨#[100, 101, 108, 101, 116, 101]⟩, .string ⟨#[52]⟩, .string ⟨#[101, 110, 100]⟩, .string ⟨#[53]⟩, .string ⟨#[112, 114, 105, 111, 114]⟩, .string ⟨#[54]⟩, .string ⟨#[110, 101, 120, 116]⟩, .string ⟨#[49, 49]⟩, .string ⟨#[102, 49]⟩, .string ⟨#[49, 50]⟩, .string ⟨#[102, 50]⟩, .string ⟨#[49, 51]⟩, .string ⟨#[102, 51]⟩, .string ⟨#[49, 52]⟩, .string ⟨#[102, 52]⟩, .string ⟨#[49, 53]⟩, .string ⟨#[102, 53]⟩, .string ⟨#[49, 55]⟩, .string ⟨#[102, 54]⟩, .string ⟨#[49, 56]⟩, .string ⟨#[102, 55]⟩, .string ⟨#[49, 57]⟩, .string ⟨#[102, 56]⟩, .string ⟨#[50, 48]⟩, .string ⟨#[102, 57]⟩, .string ⟨#[50, 49]⟩, .string ⟨#[102, 49, 48]⟩, .string ⟨#[50, 51]⟩, .string ⟨#[102, 49, 49]⟩, .string ⟨#[50, 52]⟩, .string ⟨#[102, 49, 50]⟩], 109, false⟩) :: (L)) := Lies.then H33 K35
        iterate 3 refine RW.v ?_
        refine RW.ld H36 1 1 ?_
        refine RW.lkL H36 0 (.int .i64 2097153) ?_
        refine RW.v ?_
        refine RW.nil ?_
        refine ⟨⟨by kernel_rfl, ⟨trivial, trivial, trivial, trivial, dyn_row (H36.get 1 rfl) (H36.get 1 rfl) ⟨fun _ => H33.get 0 rfl, fun h => Bool.noConfusion h, fun h => Bool.noConfusion h, fun h => Bool.noConfusion h, fun h => Bool.noConfusion h, fun _ => H36.get 1 rfl, fun h => Bool.noConfusion h, trivial⟩, trivial, trivial, trivial⟩⟩, ?_⟩
        replace H := H36
        clear H33 H36
        replace H := ((H.del 1).del 0)
        dsimp only [setL, delL] at H
        refine W.ret ?_
        refine blkQ_ret ?_
        refine seqQ_ret ?_
        refine onceQ_ret ?_
        refine blkQ_ret ?_
        refine seqQ_ret ?_
        refine endG (by rfl) (by exact resL_tmp rfl) ?_
        have ec : numM bs = 2097153 := by unfold numM; repeat (first | rw [if_pos (by assumption)] | rw [if_neg (by assumption)])
        rw [ec]
        exact ⟨rfl, H⟩
       ·have hc32b := hc32
        have hc32 := ne_of_beq_false hc32
        refine W.skip ?_
        refine blkQ_normal ?_
        refine W.region ?_
        iterate 3 refine RW.v ?_
        refine RW.nil ?_
        refine WL.once ?_
        refine W.rg [(0, .string ⟨bs.toArray⟩), (3, .pointer (some ⟨b1, 0, none⟩)), (4, .int .i64 14)] fun TA => ?_
        refine W.seq ?_
        refine W.seq (W.region ?_)
        iterate 2 refine RW.v ?_
        refine RW.nil ?_
        refine W.c1 ?_
        refine W.skip ?_
        refine W.seq ?_
        refine W.block ?_
        refine W.seq (W.region ?_)
        iterate 2 refine RW.v ?_
        refine RW.ld H 0 1 ?_
        refine RW.v ?_
        refine RW.vop (v := .bool (([49, 50] : List UInt8) == bs)) (by kernel_rfl) (by kernel_rfl) (vop_sEq rfl rfl rfl rfl) (by kernel_rfl) ?_
        refine RW.nil ?_
        refine W.rg [(0, .string ⟨bs.toArray⟩), (3, .pointer (some ⟨b1, 0, none⟩)), (4, .int .i64 14), (14, .bool (([49, 50] : List UInt8) == bs))] fun TA => ?_
        refine W.cond rfl (fun hc37 => ?_) (fun hc37 => ?_)
        ·have hc37b := hc37
         have hc37 := eq_of_beq hc37
         refine W.seq ?_
         refine W.drawn (by kernel_rfl) (by kernel_rfl) H.gn ?_
         have H38 := H
         refine RW.cl ?_
         refine ((table_wc (Lies.start H38.gn H38.abs)).mono ?_)
         rintro _ _ ⟨mb39, rfl, K40⟩
         have H41 : Lies G (A) F _ (.at_ mb39 (.ents tabE 27) :: .at_ b1 (.row ⟨[.string ⟨#[49]⟩, .string ⟨#[104, 111, 109, 101]⟩, .string ⟨#[50]⟩, .string ⟨#[105, 110, 115, 101, 114, 116]⟩, .string ⟨#[51]⟩, .string ⟨#[100, 101, 108, 101, 116, 101]⟩, .string ⟨#[52]⟩, .string ⟨#[101, 110, 100]⟩, .string ⟨#[53]⟩, .string ⟨#[112, 114, 105, 111, 114]⟩, .string ⟨#[54]⟩, .string ⟨#[110, 101, 120, 116]⟩, .string ⟨#[49, 49]⟩, .string ⟨#[102, 49]⟩, .string ⟨#[49, 50]⟩, .string ⟨#[102, 50]⟩, .string ⟨#[49, 51]⟩, .string ⟨#[102, 51]⟩, .string ⟨#[49, 52]⟩, .string ⟨#[102, 52]⟩, .string ⟨#[49, 53]⟩, .string ⟨#[102, 53]⟩, .string ⟨#[49, 55]⟩, .string ⟨#[102, 54]⟩, .string ⟨#[49, 56]⟩, .string ⟨#[102, 55]⟩, .string ⟨#[49, 57]⟩, .string ⟨#[102, 56]⟩, .string ⟨#[50, 48]⟩, .string ⟨#[102, 57]⟩, .string ⟨#[50, 49]⟩, .string ⟨#[102, 49, 48]⟩, .string ⟨#[50, 51]⟩, .string ⟨#[102, 49, 49]⟩, .string ⟨#[50, 52]⟩, .string ⟨#[102, 49, 50]⟩], 109, false⟩) :: (L)) := Lies.then H38 K40
         iterate 3 refine RW.v ?_
         refine RW.ld H41 1 1 ?_
         refine RW.lkL H41 0 (.int .i64 2097154) ?_
         refine RW.v ?_
         refine RW.nil ?_
         refine ⟨⟨by kernel_rfl, ⟨trivial, trivial, trivial, trivial, dyn_row (H41.get 1 rfl) (H41.get 1 rfl) ⟨fun _ => H38.get 0 rfl, fun h => Bool.noConfusion h, fun h => Bool.noConfusion h, fun h => Bool.noConfusion h, fun h => Bool.noConfusion h, fun _ => H41.get 1 rfl, fun h => Bool.noConfusion h, trivial⟩, trivial, trivial, trivial⟩⟩, ?_⟩
         replace H := H41
         clear H38 H41
         replace H := ((H.del 1).del 0)
         dsimp only [setL, delL] at H
         refine W.ret ?_
         refine blkQ_ret ?_
         refine seqQ_ret ?_
         refine onceQ_ret ?_
         refine blkQ_ret ?_
         refine seqQ_ret ?_
         refine endG (by rfl) (by exact resL_tmp rfl) ?_
         have ec : numM bs = 2097154 := by unfold numM; repeat (first | rw [if_pos (by assumption)] | rw [if_neg (by assumption)])
         rw [ec]
         exact ⟨rfl, H⟩
        ·have hc37b := hc37
         have hc37 := ne_of_beq_false hc37
         refine W.skip ?_
         refine blkQ_normal ?_
         refine W.region ?_
         iterate 3 refine RW.v ?_
         refine RW.nil ?_
         refine WL.once ?_
         refine W.rg [(0, .string ⟨bs.toArray⟩), (3, .pointer (some ⟨b1, 0, none⟩)), (4, .int .i64 16)] fun TA => ?_
         refine W.seq ?_
         refine W.seq (W.region ?_)
         iterate 2 refine RW.v ?_
         refine RW.nil ?_
         refine W.c1 ?_
         refine W.skip ?_
         refine W.seq ?_
         refine W.block ?_
         refine W.seq (W.region ?_)
         iterate 2 refine RW.v ?_
         refine RW.ld H 0 1 ?_
         refine RW.v ?_
         refine RW.vop (v := .bool (([49, 51] : List UInt8) == bs)) (by kernel_rfl) (by kernel_rfl) (vop_sEq rfl rfl rfl rfl) (by kernel_rfl) ?_
         refine RW.nil ?_
         refine W.rg [(0, .string ⟨bs.toArray⟩), (3, .pointer (some ⟨b1, 0, none⟩)), (4, .int .i64 16), (14, .bool (([49, 51] : List UInt8) == bs))] fun TA => ?_
         refine W.cond rfl (fun hc42 => ?_) (fun hc42 => ?_)
         ·have hc42b := hc42
          have hc42 := eq_of_beq hc42
          refine W.seq ?_
          refine W.drawn (by kernel_rfl) (by kernel_rfl) H.gn ?_
          have H43 := H
          refine RW.cl ?_
          refine ((table_wc (Lies.start H43.gn H43.abs)).mono ?_)
          rintro _ _ ⟨mb44, rfl, K45⟩
          have H46 : Lies G (A) F _ (.at_ mb44 (.ents tabE 27) :: .at_ b1 (.row ⟨[.string ⟨#[49]⟩, .string ⟨#[104, 111, 109, 101]⟩, .string ⟨#[50]⟩, .string ⟨#[105, 110, 115, 101, 114, 116]⟩, .string ⟨#[51]⟩, .string ⟨#[100, 101, 108, 101, 116, 101]⟩, .string ⟨#[52]⟩, .string ⟨#[101, 110, 100]⟩, .string ⟨#[53]⟩, .string ⟨#[112, 114, 105, 111, 114]⟩, .string ⟨#[54]⟩, .string ⟨#[110, 101, 120, 116]⟩, .string ⟨#[49, 49]⟩, .string ⟨#[102, 49]⟩, .string ⟨#[49, 50]⟩, .string ⟨#[102, 50]⟩, .string ⟨#[49, 51]⟩, .string ⟨#[102, 51]⟩, .string ⟨#[49, 52]⟩, .string ⟨#[102, 52]⟩, .string ⟨#[49, 53]⟩, .string ⟨#[102, 53]⟩, .string ⟨#[49, 55]⟩, .string ⟨#[102, 54]⟩, .string ⟨#[49, 56]⟩, .string ⟨#[102, 55]⟩, .string ⟨#[49, 57]⟩, .string ⟨#[102, 56]⟩, .string ⟨#[50, 48]⟩, .string ⟨#[102, 57]⟩, .string ⟨#[50, 49]⟩, .string ⟨#[102, 49, 48]⟩, .string ⟨#[50, 51]⟩, .string ⟨#[102, 49, 49]⟩, .string ⟨#[50, 52]⟩, .string ⟨#[102, 49, 50]⟩], 109, false⟩) :: (L)) := Lies.then H43 K45
          iterate 3 refine RW.v ?_
          refine RW.ld H46 1 1 ?_
          refine RW.lkL H46 0 (.int .i64 2097155) ?_
          refine RW.v ?_
          refine RW.nil ?_
          refine ⟨⟨by kernel_rfl, ⟨trivial, trivial, trivial, trivial, dyn_row (H46.get 1 rfl) (H46.get 1 rfl) ⟨fun _ => H43.get 0 rfl, fun h => Bool.noConfusion h, fun h => Bool.noConfusion h, fun h => Bool.noConfusion h, fun h => Bool.noConfusion h, fun _ => H46.get 1 rfl, fun h => Bool.noConfusion h, trivial⟩, trivial, trivial, trivial⟩⟩, ?_⟩
          replace H := H46
          clear H43 H46
          replace H := ((H.del 1).del 0)
          dsimp only [setL, delL] at H
          refine W.ret ?_
          refine blkQ_ret ?_
          refine seqQ_ret ?_
          refine onceQ_ret ?_
          refine blkQ_ret ?_
          refine seqQ_ret ?_
          refine endG (by rfl) (by exact resL_tmp rfl) ?_
          have ec : numM bs = 2097155 := by unfold numM; repeat (first | rw [if_pos (by assumption)] | rw [if_neg (by assumption)])
          rw [ec]
          exact ⟨rfl, H⟩
         ·have hc42b := hc42
          have hc42 := ne_of_beq_false hc42
          refine W.skip ?_
          refine blkQ_normal ?_
          refine W.region ?_
          iterate 3 refine RW.v ?_
          refine RW.nil ?_
          refine WL.once ?_
          refine W.rg [(0, .string ⟨bs.toArray⟩), (3, .pointer (some ⟨b1, 0, none⟩)), (4, .int .i64 18)] fun TA => ?_
          refine W.seq ?_
          refine W.seq (W.region ?_)
          iterate 2 refine RW.v ?_
          refine RW.nil ?_
          refine W.c1 ?_
          refine W.skip ?_
          refine W.seq ?_
          refine W.block ?_
          refine W.seq (W.region ?_)
          iterate 2 refine RW.v ?_
          refine RW.ld H 0 1 ?_
          refine RW.v ?_
          refine RW.vop (v := .bool (([49, 52] : List UInt8) == bs)) (by kernel_rfl) (by kernel_rfl) (vop_sEq rfl rfl rfl rfl) (by kernel_rfl) ?_
          refine RW.nil ?_
          refine W.rg [(0, .string ⟨bs.toArray⟩), (3, .pointer (some ⟨b1, 0, none⟩)), (4, .int .i64 18), (14, .bool (([49, 52] : List UInt8) == bs))] fun TA => ?_
          refine W.cond rfl (fun hc47 => ?_) (fun hc47 => ?_)
          ·have hc47b := hc47
           have hc47 := eq_of_beq hc47
           refine W.seq ?_
           refine W.drawn (by kernel_rfl) (by kernel_rfl) H.gn ?_
           have H48 := H
           refine RW.cl ?_
           refine ((table_wc (Lies.start H48.gn H48.abs)).mono ?_)
           rintro _ _ ⟨mb49, rfl, K50⟩
           have H51 : Lies G (A) F _ (.at_ mb49 (.ents tabE 27) :: .at_ b1 (.row ⟨[.string ⟨#[49]⟩, .string ⟨#[104, 111, 109, 101]⟩, .string ⟨#[50]⟩, .string ⟨#[105, 110, 115, 101, 114, 116]⟩, .string ⟨#[51]⟩, .string ⟨#[100, 101, 108, 101, 116, 101]⟩, .string ⟨#[52]⟩, .string ⟨#[101, 110, 100]⟩, .string ⟨#[53]⟩, .string ⟨#[112, 114, 105, 111, 114]⟩, .string ⟨#[54]⟩, .string ⟨#[110, 101, 120, 116]⟩, .string ⟨#[49, 49]⟩, .string ⟨#[102, 49]⟩, .string ⟨#[49, 50]⟩, .string ⟨#[102, 50]⟩, .string ⟨#[49, 51]⟩, .string ⟨#[102, 51]⟩, .string ⟨#[49, 52]⟩, .string ⟨#[102, 52]⟩, .string ⟨#[49, 53]⟩, .string ⟨#[102, 53]⟩, .string ⟨#[49, 55]⟩, .string ⟨#[102, 54]⟩, .string ⟨#[49, 56]⟩, .string ⟨#[102, 55]⟩, .string ⟨#[49, 57]⟩, .string ⟨#[102, 56]⟩, .string ⟨#[50, 48]⟩, .string ⟨#[102, 57]⟩, .string ⟨#[50, 49]⟩, .string ⟨#[102, 49, 48]⟩, .string ⟨#[50, 51]⟩, .string ⟨#[102, 49, 49]⟩, .string ⟨#[50, 52]⟩, .string ⟨#[102, 49, 50]⟩], 109, false⟩) :: (L)) := Lies.then H48 K50
           iterate 3 refine RW.v ?_
           refine RW.ld H51 1 1 ?_
           refine RW.lkL H51 0 (.int .i64 2097156) ?_
           refine RW.v ?_
           refine RW.nil ?_
           refine ⟨⟨by kernel_rfl, ⟨trivial, trivial, trivial, trivial, dyn_row (H51.get 1 rfl) (H51.get 1 rfl) ⟨fun _ => H48.get 0 rfl, fun h => Bool.noConfusion h, fun h => Bool.noConfusion h, fun h => Bool.noConfusion h, fun h => Bool.noConfusion h, fun _ => H51.get 1 rfl, fun h => Bool.noConfusion h, trivial⟩, trivial, trivial, trivial⟩⟩, ?_⟩
           replace H := H51
           clear H48 H51
           replace H := ((H.del 1).del 0)
           dsimp only [setL, delL] at H
           refine W.ret ?_
           refine blkQ_ret ?_
           refine seqQ_ret ?_
           refine onceQ_ret ?_
           refine blkQ_ret ?_
           refine seqQ_ret ?_
           refine endG (by rfl) (by exact resL_tmp rfl) ?_
           have ec : numM bs = 2097156 := by unfold numM; repeat (first | rw [if_pos (by assumption)] | rw [if_neg (by assumption)])
           rw [ec]
           exact ⟨rfl, H⟩
          ·have hc47b := hc47
           have hc47 := ne_of_beq_false hc47
           refine W.skip ?_
           refine blkQ_normal ?_
           refine W.region ?_
           iterate 3 refine RW.v ?_
           refine RW.nil ?_
           refine WL.once ?_
           refine W.rg [(0, .string ⟨bs.toArray⟩), (3, .pointer (some ⟨b1, 0, none⟩)), (4, .int .i64 20)] fun TA => ?_
           refine W.seq ?_
           refine W.seq (W.region ?_)
           iterate 2 refine RW.v ?_
           refine RW.nil ?_
           refine W.c1 ?_
           refine W.skip ?_
           refine W.seq ?_
           refine W.block ?_
           refine W.seq (W.region ?_)
           iterate 2 refine RW.v ?_
           refine RW.ld H 0 1 ?_
           refine RW.v ?_
           refine RW.vop (v := .bool (([49, 53] : List UInt8) == bs)) (by kernel_rfl) (by kernel_rfl) (vop_sEq rfl rfl rfl rfl) (by kernel_rfl) ?_
           refine RW.nil ?_
           refine W.rg [(0, .string ⟨bs.toArray⟩), (3, .pointer (some ⟨b1, 0, none⟩)), (4, .int .i64 20), (14, .bool (([49, 53] : List UInt8) == bs))] fun TA => ?_
           refine W.cond rfl (fun hc52 => ?_) (fun hc52 => ?_)
           ·have hc52b := hc52
            have hc52 := eq_of_beq hc52
            refine W.seq ?_
            refine W.drawn (by kernel_rfl) (by kernel_rfl) H.gn ?_
            have H53 := H
            refine RW.cl ?_
            refine ((table_wc (Lies.start H53.gn H53.abs)).mono ?_)
            rintro _ _ ⟨mb54, rfl, K55⟩
            have H56 : Lies G (A) F _ (.at_ mb54 (.ents tabE 27) :: .at_ b1 (.row ⟨[.string ⟨#[49]⟩, .string ⟨#[104, 111, 109, 101]⟩, .string ⟨#[50]⟩, .string ⟨#[105, 110, 115, 101, 114, 116]⟩, .string ⟨#[51]⟩, .string ⟨#[100, 101, 108, 101, 116, 101]⟩, .string ⟨#[52]⟩, .string ⟨#[101, 110, 100]⟩, .string ⟨#[53]⟩, .string ⟨#[112, 114, 105, 111, 114]⟩, .string ⟨#[54]⟩, .string ⟨#[110, 101, 120, 116]⟩, .string ⟨#[49, 49]⟩, .string ⟨#[102, 49]⟩, .string ⟨#[49, 50]⟩, .string ⟨#[102, 50]⟩, .string ⟨#[49, 51]⟩, .string ⟨#[102, 51]⟩, .string ⟨#[49, 52]⟩, .string ⟨#[102, 52]⟩, .string ⟨#[49, 53]⟩, .string ⟨#[102, 53]⟩, .string ⟨#[49, 55]⟩, .string ⟨#[102, 54]⟩, .string ⟨#[49, 56]⟩, .string ⟨#[102, 55]⟩, .string ⟨#[49, 57]⟩, .string ⟨#[102, 56]⟩, .string ⟨#[50, 48]⟩, .string ⟨#[102, 57]⟩, .string ⟨#[50, 49]⟩, .string ⟨#[102, 49, 48]⟩, .string ⟨#[50, 51]⟩, .string ⟨#[102, 49, 49]⟩, .string ⟨#[50, 52]⟩, .string ⟨#[102, 49, 50]⟩], 109, false⟩) :: (L)) := Lies.then H53 K55
            iterate 3 refine RW.v ?_
            refine RW.ld H56 1 1 ?_
            refine RW.lkL H56 0 (.int .i64 2097157) ?_
            refine RW.v ?_
            refine RW.nil ?_
            refine ⟨⟨by kernel_rfl, ⟨trivial, trivial, trivial, trivial, dyn_row (H56.get 1 rfl) (H56.get 1 rfl) ⟨fun _ => H53.get 0 rfl, fun h => Bool.noConfusion h, fun h => Bool.noConfusion h, fun h => Bool.noConfusion h, fun h => Bool.noConfusion h, fun _ => H56.get 1 rfl, fun h => Bool.noConfusion h, trivial⟩, trivial, trivial, trivial⟩⟩, ?_⟩
            replace H := H56
            clear H53 H56
            replace H := ((H.del 1).del 0)
            dsimp only [setL, delL] at H
            refine W.ret ?_
            refine blkQ_ret ?_
            refine seqQ_ret ?_
            refine onceQ_ret ?_
            refine blkQ_ret ?_
            refine seqQ_ret ?_
            refine endG (by rfl) (by exact resL_tmp rfl) ?_
            have ec : numM bs = 2097157 := by unfold numM; repeat (first | rw [if_pos (by assumption)] | rw [if_neg (by assumption)])
            rw [ec]
            exact ⟨rfl, H⟩
           ·have hc52b := hc52
            have hc52 := ne_of_beq_false hc52
            refine W.skip ?_
            refine blkQ_normal ?_
            refine W.region ?_
            iterate 3 refine RW.v ?_
            refine RW.nil ?_
            refine WL.once ?_
            refine W.rg [(0, .string ⟨bs.toArray⟩), (3, .pointer (some ⟨b1, 0, none⟩)), (4, .int .i64 22)] fun TA => ?_
            refine W.seq ?_
            refine W.seq (W.region ?_)
            iterate 2 refine RW.v ?_
            refine RW.nil ?_
            refine W.c1 ?_
            refine W.skip ?_
            refine W.seq ?_
            refine W.block ?_
            refine W.seq (W.region ?_)
            iterate 2 refine RW.v ?_
            refine RW.ld H 0 1 ?_
            refine RW.v ?_
            refine RW.vop (v := .bool (([49, 55] : List UInt8) == bs)) (by kernel_rfl) (by kernel_rfl) (vop_sEq rfl rfl rfl rfl) (by kernel_rfl) ?_
            refine RW.nil ?_
            refine W.rg [(0, .string ⟨bs.toArray⟩), (3, .pointer (some ⟨b1, 0, none⟩)), (4, .int .i64 22), (14, .bool (([49, 55] : List UInt8) == bs))] fun TA => ?_
            refine W.cond rfl (fun hc57 => ?_) (fun hc57 => ?_)
            ·have hc57b := hc57
             have hc57 := eq_of_beq hc57
             refine W.seq ?_
             refine W.drawn (by kernel_rfl) (by kernel_rfl) H.gn ?_
             have H58 := H
             refine RW.cl ?_
             refine ((table_wc (Lies.start H58.gn H58.abs)).mono ?_)
             rintro _ _ ⟨mb59, rfl, K60⟩
             have H61 : Lies G (A) F _ (.at_ mb59 (.ents tabE 27) :: .at_ b1 (.row ⟨[.string ⟨#[49]⟩, .string ⟨#[104, 111, 109, 101]⟩, .string ⟨#[50]⟩, .string ⟨#[105, 110, 115, 101, 114, 116]⟩, .string ⟨#[51]⟩, .string ⟨#[100, 101, 108, 101, 116, 101]⟩, .string ⟨#[52]⟩, .string ⟨#[101, 110, 100]⟩, .string ⟨#[53]⟩, .string ⟨#[112, 114, 105, 111, 114]⟩, .string ⟨#[54]⟩, .string ⟨#[110, 101, 120, 116]⟩, .string ⟨#[49, 49]⟩, .string ⟨#[102, 49]⟩, .string ⟨#[49, 50]⟩, .string ⟨#[102, 50]⟩, .string ⟨#[49, 51]⟩, .string ⟨#[102, 51]⟩, .string ⟨#[49, 52]⟩, .string ⟨#[102, 52]⟩, .string ⟨#[49, 53]⟩, .string ⟨#[102, 53]⟩, .string ⟨#[49, 55]⟩, .string ⟨#[102, 54]⟩, .string ⟨#[49, 56]⟩, .string ⟨#[102, 55]⟩, .string ⟨#[49, 57]⟩, .string ⟨#[102, 56]⟩, .string ⟨#[50, 48]⟩, .string ⟨#[102, 57]⟩, .string ⟨#[50, 49]⟩, .string ⟨#[102, 49, 48]⟩, .string ⟨#[50, 51]⟩, .string ⟨#[102, 49, 49]⟩, .string ⟨#[50, 52]⟩, .string ⟨#[102, 49, 50]⟩], 109, false⟩) :: (L)) := Lies.then H58 K60
             iterate 3 refine RW.v ?_
             refine RW.ld H61 1 1 ?_
             refine RW.lkL H61 0 (.int .i64 2097158) ?_
             refine RW.v ?_
             refine RW.nil ?_
             refine ⟨⟨by kernel_rfl, ⟨trivial, trivial, trivial, trivial, dyn_row (H61.get 1 rfl) (H61.get 1 rfl) ⟨fun _ => H58.get 0 rfl, fun h => Bool.noConfusion h, fun h => Bool.noConfusion h, fun h => Bool.noConfusion h, fun h => Bool.noConfusion h, fun _ => H61.get 1 rfl, fun h => Bool.noConfusion h, trivial⟩, trivial, trivial, trivial⟩⟩, ?_⟩
             replace H := H61
             clear H58 H61
             replace H := ((H.del 1).del 0)
             dsimp only [setL, delL] at H
             refine W.ret ?_
             refine blkQ_ret ?_
             refine seqQ_ret ?_
             refine onceQ_ret ?_
             refine blkQ_ret ?_
             refine seqQ_ret ?_
             refine endG (by rfl) (by exact resL_tmp rfl) ?_
             have ec : numM bs = 2097158 := by unfold numM; repeat (first | rw [if_pos (by assumption)] | rw [if_neg (by assumption)])
             rw [ec]
             exact ⟨rfl, H⟩
            ·have hc57b := hc57
             have hc57 := ne_of_beq_false hc57
             refine W.skip ?_
             refine blkQ_normal ?_
             refine W.region ?_
             iterate 3 refine RW.v ?_
             refine RW.nil ?_
             refine WL.once ?_
             refine W.rg [(0, .string ⟨bs.toArray⟩), (3, .pointer (some ⟨b1, 0, none⟩)), (4, .int .i64 24)] fun TA => ?_
             refine W.seq ?_
             refine W.seq (W.region ?_)
             iterate 2 refine RW.v ?_
             refine RW.nil ?_
             refine W.c1 ?_
             refine W.skip ?_
             refine W.seq ?_
             refine W.block ?_
             refine W.seq (W.region ?_)
             iterate 2 refine RW.v ?_
             refine RW.ld H 0 1 ?_
             refine RW.v ?_
             refine RW.vop (v := .bool (([49, 56] : List UInt8) == bs)) (by kernel_rfl) (by kernel_rfl) (vop_sEq rfl rfl rfl rfl) (by kernel_rfl) ?_
             refine RW.nil ?_
             refine W.rg [(0, .string ⟨bs.toArray⟩), (3, .pointer (some ⟨b1, 0, none⟩)), (4, .int .i64 24), (14, .bool (([49, 56] : List UInt8) == bs))] fun TA => ?_
             refine W.cond rfl (fun hc62 => ?_) (fun hc62 => ?_)
             ·have hc62b := hc62
              have hc62 := eq_of_beq hc62
              refine W.seq ?_
              refine W.drawn (by kernel_rfl) (by kernel_rfl) H.gn ?_
              have H63 := H
              refine RW.cl ?_
              refine ((table_wc (Lies.start H63.gn H63.abs)).mono ?_)
              rintro _ _ ⟨mb64, rfl, K65⟩
              have H66 : Lies G (A) F _ (.at_ mb64 (.ents tabE 27) :: .at_ b1 (.row ⟨[.string ⟨#[49]⟩, .string ⟨#[104, 111, 109, 101]⟩, .string ⟨#[50]⟩, .string ⟨#[105, 110, 115, 101, 114, 116]⟩, .string ⟨#[51]⟩, .string ⟨#[100, 101, 108, 101, 116, 101]⟩, .string ⟨#[52]⟩, .string ⟨#[101, 110, 100]⟩, .string ⟨#[53]⟩, .string ⟨#[112, 114, 105, 111, 114]⟩, .string ⟨#[54]⟩, .string ⟨#[110, 101, 120, 116]⟩, .string ⟨#[49, 49]⟩, .string ⟨#[102, 49]⟩, .string ⟨#[49, 50]⟩, .string ⟨#[102, 50]⟩, .string ⟨#[49, 51]⟩, .string ⟨#[102, 51]⟩, .string ⟨#[49, 52]⟩, .string ⟨#[102, 52]⟩, .string ⟨#[49, 53]⟩, .string ⟨#[102, 53]⟩, .string ⟨#[49, 55]⟩, .string ⟨#[102, 54]⟩, .string ⟨#[49, 56]⟩, .string ⟨#[102, 55]⟩, .string ⟨#[49, 57]⟩, .string ⟨#[102, 56]⟩, .string ⟨#[50, 48]⟩, .string ⟨#[102, 57]⟩, .string ⟨#[50, 49]⟩, .string ⟨#[102, 49, 48]⟩, .string ⟨#[50, 51]⟩, .string ⟨#[102, 49, 49]⟩, .string ⟨#[50, 52]⟩, .string ⟨#[102, 49, 50]⟩], 109, false⟩) :: (L)) := Lies.then H63 K65
              iterate 3 refine RW.v ?_
              refine RW.ld H66 1 1 ?_
              refine RW.lkL H66 0 (.int .i64 2097159) ?_
              refine RW.v ?_
              refine RW.nil ?_
              refine ⟨⟨by kernel_rfl, ⟨trivial, trivial, trivial, trivial, dyn_row (H66.get 1 rfl) (H66.get 1 rfl) ⟨fun _ => H63.get 0 rfl, fun h => Bool.noConfusion h, fun h => Bool.noConfusion h, fun h => Bool.noConfusion h, fun h => Bool.noConfusion h, fun _ => H66.get 1 rfl, fun h => Bool.noConfusion h, trivial⟩, trivial, trivial, trivial⟩⟩, ?_⟩
              replace H := H66
              clear H63 H66
              replace H := ((H.del 1).del 0)
              dsimp only [setL, delL] at H
              refine W.ret ?_
              refine blkQ_ret ?_
              refine seqQ_ret ?_
              refine onceQ_ret ?_
              refine blkQ_ret ?_
              refine seqQ_ret ?_
              refine endG (by rfl) (by exact resL_tmp rfl) ?_
              have ec : numM bs = 2097159 := by unfold numM; repeat (first | rw [if_pos (by assumption)] | rw [if_neg (by assumption)])
              rw [ec]
              exact ⟨rfl, H⟩
             ·have hc62b := hc62
              have hc62 := ne_of_beq_false hc62
              refine W.skip ?_
              refine blkQ_normal ?_
              refine W.region ?_
              iterate 3 refine RW.v ?_
              refine RW.nil ?_
              refine WL.once ?_
              refine W.rg [(0, .string ⟨bs.toArray⟩), (3, .pointer (some ⟨b1, 0, none⟩)), (4, .int .i64 26)] fun TA => ?_
              refine W.seq ?_
              refine W.seq (W.region ?_)
              iterate 2 refine RW.v ?_
              refine RW.nil ?_
              refine W.c1 ?_
              refine W.skip ?_
              refine W.seq ?_
              refine W.block ?_
              refine W.seq (W.region ?_)
              iterate 2 refine RW.v ?_
              refine RW.ld H 0 1 ?_
              refine RW.v ?_
              refine RW.vop (v := .bool (([49, 57] : List UInt8) == bs)) (by kernel_rfl) (by kernel_rfl) (vop_sEq rfl rfl rfl rfl) (by kernel_rfl) ?_
              refine RW.nil ?_
              refine W.rg [(0, .string ⟨bs.toArray⟩), (3, .pointer (some ⟨b1, 0, none⟩)), (4, .int .i64 26), (14, .bool (([49, 57] : List UInt8) == bs))] fun TA => ?_
              refine W.cond rfl (fun hc67 => ?_) (fun hc67 => ?_)
              ·have hc67b := hc67
               have hc67 := eq_of_beq hc67
               refine W.seq ?_
               refine W.drawn (by kernel_rfl) (by kernel_rfl) H.gn ?_
               have H68 := H
               refine RW.cl ?_
               refine ((table_wc (Lies.start H68.gn H68.abs)).mono ?_)
               rintro _ _ ⟨mb69, rfl, K70⟩
               have H71 : Lies G (A) F _ (.at_ mb69 (.ents tabE 27) :: .at_ b1 (.row ⟨[.string ⟨#[49]⟩, .string ⟨#[104, 111, 109, 101]⟩, .string ⟨#[50]⟩, .string ⟨#[105, 110, 115, 101, 114, 116]⟩, .string ⟨#[51]⟩, .string ⟨#[100, 101, 108, 101, 116, 101]⟩, .string ⟨#[52]⟩, .string ⟨#[101, 110, 100]⟩, .string ⟨#[53]⟩, .string ⟨#[112, 114, 105, 111, 114]⟩, .string ⟨#[54]⟩, .string ⟨#[110, 101, 120, 116]⟩, .string ⟨#[49, 49]⟩, .string ⟨#[102, 49]⟩, .string ⟨#[49, 50]⟩, .string ⟨#[102, 50]⟩, .string ⟨#[49, 51]⟩, .string ⟨#[102, 51]⟩, .string ⟨#[49, 52]⟩, .string ⟨#[102, 52]⟩, .string ⟨#[49, 53]⟩, .string ⟨#[102, 53]⟩, .string ⟨#[49, 55]⟩, .string ⟨#[102, 54]⟩, .string ⟨#[49, 56]⟩, .string ⟨#[102, 55]⟩, .string ⟨#[49, 57]⟩, .string ⟨#[102, 56]⟩, .string ⟨#[50, 48]⟩, .string ⟨#[102, 57]⟩, .string ⟨#[50, 49]⟩, .string ⟨#[102, 49, 48]⟩, .string ⟨#[50, 51]⟩, .string ⟨#[102, 49, 49]⟩, .string ⟨#[50, 52]⟩, .string ⟨#[102, 49, 50]⟩], 109, false⟩) :: (L)) := Lies.then H68 K70
               iterate 3 refine RW.v ?_
               refine RW.ld H71 1 1 ?_
               refine RW.lkL H71 0 (.int .i64 2097160) ?_
               refine RW.v ?_
               refine RW.nil ?_
               refine ⟨⟨by kernel_rfl, ⟨trivial, trivial, trivial, trivial, dyn_row (H71.get 1 rfl) (H71.get 1 rfl) ⟨fun _ => H68.get 0 rfl, fun h => Bool.noConfusion h, fun h => Bool.noConfusion h, fun h => Bool.noConfusion h, fun h => Bool.noConfusion h, fun _ => H71.get 1 rfl, fun h => Bool.noConfusion h, trivial⟩, trivial, trivial, trivial⟩⟩, ?_⟩
               replace H := H71
               clear H68 H71
               replace H := ((H.del 1).del 0)
               dsimp only [setL, delL] at H
               refine W.ret ?_
               refine blkQ_ret ?_
               refine seqQ_ret ?_
               refine onceQ_ret ?_
               refine blkQ_ret ?_
               refine seqQ_ret ?_
               refine endG (by rfl) (by exact resL_tmp rfl) ?_
               have ec : numM bs = 2097160 := by unfold numM; repeat (first | rw [if_pos (by assumption)] | rw [if_neg (by assumption)])
               rw [ec]
               exact ⟨rfl, H⟩
              ·have hc67b := hc67
               have hc67 := ne_of_beq_false hc67
               refine W.skip ?_
               refine blkQ_normal ?_
               refine W.region ?_
               iterate 3 refine RW.v ?_
               refine RW.nil ?_
               refine WL.once ?_
               refine W.rg [(0, .string ⟨bs.toArray⟩), (3, .pointer (some ⟨b1, 0, none⟩)), (4, .int .i64 28)] fun TA => ?_
               refine W.seq ?_
               refine W.seq (W.region ?_)
               iterate 2 refine RW.v ?_
               refine RW.nil ?_
               refine W.c1 ?_
               refine W.skip ?_
               refine W.seq ?_
               refine W.block ?_
               refine W.seq (W.region ?_)
               iterate 2 refine RW.v ?_
               refine RW.ld H 0 1 ?_
               refine RW.v ?_
               refine RW.vop (v := .bool (([50, 48] : List UInt8) == bs)) (by kernel_rfl) (by kernel_rfl) (vop_sEq rfl rfl rfl rfl) (by kernel_rfl) ?_
               refine RW.nil ?_
               refine W.rg [(0, .string ⟨bs.toArray⟩), (3, .pointer (some ⟨b1, 0, none⟩)), (4, .int .i64 28), (14, .bool (([50, 48] : List UInt8) == bs))] fun TA => ?_
               refine W.cond rfl (fun hc72 => ?_) (fun hc72 => ?_)
               ·have hc72b := hc72
                have hc72 := eq_of_beq hc72
                refine W.seq ?_
                refine W.drawn (by kernel_rfl) (by kernel_rfl) H.gn ?_
                have H73 := H
                refine RW.cl ?_
                refine ((table_wc (Lies.start H73.gn H73.abs)).mono ?_)
                rintro _ _ ⟨mb74, rfl, K75⟩
                have H76 : Lies G (A) F _ (.at_ mb74 (.ents tabE 27) :: .at_ b1 (.row ⟨[.string ⟨#[49]⟩, .string ⟨#[104, 111, 109, 101]⟩, .string ⟨#[50]⟩, .string ⟨#[105, 110, 115, 101, 114, 116]⟩, .string ⟨#[51]⟩, .string ⟨#[100, 101, 108, 101, 116, 101]⟩, .string ⟨#[52]⟩, .string ⟨#[101, 110, 100]⟩, .string ⟨#[53]⟩, .string ⟨#[112, 114, 105, 111, 114]⟩, .string ⟨#[54]⟩, .string ⟨#[110, 101, 120, 116]⟩, .string ⟨#[49, 49]⟩, .string ⟨#[102, 49]⟩, .string ⟨#[49, 50]⟩, .string ⟨#[102, 50]⟩, .string ⟨#[49, 51]⟩, .string ⟨#[102, 51]⟩, .string ⟨#[49, 52]⟩, .string ⟨#[102, 52]⟩, .string ⟨#[49, 53]⟩, .string ⟨#[102, 53]⟩, .string ⟨#[49, 55]⟩, .string ⟨#[102, 54]⟩, .string ⟨#[49, 56]⟩, .string ⟨#[102, 55]⟩, .string ⟨#[49, 57]⟩, .string ⟨#[102, 56]⟩, .string ⟨#[50, 48]⟩, .string ⟨#[102, 57]⟩, .string ⟨#[50, 49]⟩, .string ⟨#[102, 49, 48]⟩, .string ⟨#[50, 51]⟩, .string ⟨#[102, 49, 49]⟩, .string ⟨#[50, 52]⟩, .string ⟨#[102, 49, 50]⟩], 109, false⟩) :: (L)) := Lies.then H73 K75
                iterate 3 refine RW.v ?_
                refine RW.ld H76 1 1 ?_
                refine RW.lkL H76 0 (.int .i64 2097161) ?_
                refine RW.v ?_
                refine RW.nil ?_
                refine ⟨⟨by kernel_rfl, ⟨trivial, trivial, trivial, trivial, dyn_row (H76.get 1 rfl) (H76.get 1 rfl) ⟨fun _ => H73.get 0 rfl, fun h => Bool.noConfusion h, fun h => Bool.noConfusion h, fun h => Bool.noConfusion h, fun h => Bool.noConfusion h, fun _ => H76.get 1 rfl, fun h => Bool.noConfusion h, trivial⟩, trivial, trivial, trivial⟩⟩, ?_⟩
                replace H := H76
                clear H73 H76
                replace H := ((H.del 1).del 0)
                dsimp only [setL, delL] at H
                refine W.ret ?_
                refine blkQ_ret ?_
                refine seqQ_ret ?_
                refine onceQ_ret ?_
                refine blkQ_ret ?_
                refine seqQ_ret ?_
                refine endG (by rfl) (by exact resL_tmp rfl) ?_
                have ec : numM bs = 2097161 := by unfold numM; repeat (first | rw [if_pos (by assumption)] | rw [if_neg (by assumption)])
                rw [ec]
                exact ⟨rfl, H⟩
               ·have hc72b := hc72
                have hc72 := ne_of_beq_false hc72
                refine W.skip ?_
                refine blkQ_normal ?_
                refine W.region ?_
                iterate 3 refine RW.v ?_
                refine RW.nil ?_
                refine WL.once ?_
                refine W.rg [(0, .string ⟨bs.toArray⟩), (3, .pointer (some ⟨b1, 0, none⟩)), (4, .int .i64 30)] fun TA => ?_
                refine W.seq ?_
                refine W.seq (W.region ?_)
                iterate 2 refine RW.v ?_
                refine RW.nil ?_
                refine W.c1 ?_
                refine W.skip ?_
                refine W.seq ?_
                refine W.block ?_
                refine W.seq (W.region ?_)
                iterate 2 refine RW.v ?_
                refine RW.ld H 0 1 ?_
                refine RW.v ?_
                refine RW.vop (v := .bool (([50, 49] : List UInt8) == bs)) (by kernel_rfl) (by kernel_rfl) (vop_sEq rfl rfl rfl rfl) (by kernel_rfl) ?_
                refine RW.nil ?_
                refine W.rg [(0, .string ⟨bs.toArray⟩), (3, .pointer (some ⟨b1, 0, none⟩)), (4, .int .i64 30), (14, .bool (([50, 49] : List UInt8) == bs))] fun TA => ?_
                refine W.cond rfl (fun hc77 => ?_) (fun hc77 => ?_)
                ·have hc77b := hc77
                 have hc77 := eq_of_beq hc77
                 refine W.seq ?_
                 refine W.drawn (by kernel_rfl) (by kernel_rfl) H.gn ?_
                 have H78 := H
                 refine RW.cl ?_
                 refine ((table_wc (Lies.start H78.gn H78.abs)).mono ?_)
                 rintro _ _ ⟨mb79, rfl, K80⟩
                 have H81 : Lies G (A) F _ (.at_ mb79 (.ents tabE 27) :: .at_ b1 (.row ⟨[.string ⟨#[49]⟩, .string ⟨#[104, 111, 109, 101]⟩, .string ⟨#[50]⟩, .string ⟨#[105, 110, 115, 101, 114, 116]⟩, .string ⟨#[51]⟩, .string ⟨#[100, 101, 108, 101, 116, 101]⟩, .string ⟨#[52]⟩, .string ⟨#[101, 110, 100]⟩, .string ⟨#[53]⟩, .string ⟨#[112, 114, 105, 111, 114]⟩, .string ⟨#[54]⟩, .string ⟨#[110, 101, 120, 116]⟩, .string ⟨#[49, 49]⟩, .string ⟨#[102, 49]⟩, .string ⟨#[49, 50]⟩, .string ⟨#[102, 50]⟩, .string ⟨#[49, 51]⟩, .string ⟨#[102, 51]⟩, .string ⟨#[49, 52]⟩, .string ⟨#[102, 52]⟩, .string ⟨#[49, 53]⟩, .string ⟨#[102, 53]⟩, .string ⟨#[49, 55]⟩, .string ⟨#[102, 54]⟩, .string ⟨#[49, 56]⟩, .string ⟨#[102, 55]⟩, .string ⟨#[49, 57]⟩, .string ⟨#[102, 56]⟩, .string ⟨#[50, 48]⟩, .string ⟨#[102, 57]⟩, .string ⟨#[50, 49]⟩, .string ⟨#[102, 49, 48]⟩, .string ⟨#[50, 51]⟩, .string ⟨#[102, 49, 49]⟩, .string ⟨#[50, 52]⟩, .string ⟨#[102, 49, 50]⟩], 109, false⟩) :: (L)) := Lies.then H78 K80
                 iterate 3 refine RW.v ?_
                 refine RW.ld H81 1 1 ?_
                 refine RW.lkL H81 0 (.int .i64 2097162) ?_
                 refine RW.v ?_
                 refine RW.nil ?_
                 refine ⟨⟨by kernel_rfl, ⟨trivial, trivial, trivial, trivial, dyn_row (H81.get 1 rfl) (H81.get 1 rfl) ⟨fun _ => H78.get 0 rfl, fun h => Bool.noConfusion h, fun h => Bool.noConfusion h, fun h => Bool.noConfusion h, fun h => Bool.noConfusion h, fun _ => H81.get 1 rfl, fun h => Bool.noConfusion h, trivial⟩, trivial, trivial, trivial⟩⟩, ?_⟩
                 replace H := H81
                 clear H78 H81
                 replace H := ((H.del 1).del 0)
                 dsimp only [setL, delL] at H
                 refine W.ret ?_
                 refine blkQ_ret ?_
                 refine seqQ_ret ?_
                 refine onceQ_ret ?_
                 refine blkQ_ret ?_
                 refine seqQ_ret ?_
                 refine endG (by rfl) (by exact resL_tmp rfl) ?_
                 have ec : numM bs = 2097162 := by unfold numM; repeat (first | rw [if_pos (by assumption)] | rw [if_neg (by assumption)])
                 rw [ec]
                 exact ⟨rfl, H⟩
                ·have hc77b := hc77
                 have hc77 := ne_of_beq_false hc77
                 refine W.skip ?_
                 refine blkQ_normal ?_
                 refine W.region ?_
                 iterate 3 refine RW.v ?_
                 refine RW.nil ?_
                 refine WL.once ?_
                 refine W.rg [(0, .string ⟨bs.toArray⟩), (3, .pointer (some ⟨b1, 0, none⟩)), (4, .int .i64 32)] fun TA => ?_
                 refine W.seq ?_
                 refine W.seq (W.region ?_)
                 iterate 2 refine RW.v ?_
                 refine RW.nil ?_
                 refine W.c1 ?_
                 refine W.skip ?_
                 refine W.seq ?_
                 refine W.block ?_
                 refine W.seq (W.region ?_)
                 iterate 2 refine RW.v ?_
                 refine RW.ld H 0 1 ?_
                 refine RW.v ?_
                 refine RW.vop (v := .bool (([50, 51] : List UInt8) == bs)) (by kernel_rfl) (by kernel_rfl) (vop_sEq rfl rfl rfl rfl) (by kernel_rfl) ?_
                 refine RW.nil ?_
                 refine W.rg [(0, .string ⟨bs.toArray⟩), (3, .pointer (some ⟨b1, 0, none⟩)), (4, .int .i64 32), (14, .bool (([50, 51] : List UInt8) == bs))] fun TA => ?_
                 refine W.cond rfl (fun hc82 => ?_) (fun hc82 => ?_)
                 ·have hc82b := hc82
                  have hc82 := eq_of_beq hc82
                  refine W.seq ?_
                  refine W.drawn (by kernel_rfl) (by kernel_rfl) H.gn ?_
                  have H83 := H
                  refine RW.cl ?_
                  refine ((table_wc (Lies.start H83.gn H83.abs)).mono ?_)
                  rintro _ _ ⟨mb84, rfl, K85⟩
                  have H86 : Lies G (A) F _ (.at_ mb84 (.ents tabE 27) :: .at_ b1 (.row ⟨[.string ⟨#[49]⟩, .string ⟨#[104, 111, 109, 101]⟩, .string ⟨#[50]⟩, .string ⟨#[105, 110, 115, 101, 114, 116]⟩, .string ⟨#[51]⟩, .string ⟨#[100, 101, 108, 101, 116, 101]⟩, .string ⟨#[52]⟩, .string ⟨#[101, 110, 100]⟩, .string ⟨#[53]⟩, .string ⟨#[112, 114, 105, 111, 114]⟩, .string ⟨#[54]⟩, .string ⟨#[110, 101, 120, 116]⟩, .string ⟨#[49, 49]⟩, .string ⟨#[102, 49]⟩, .string ⟨#[49, 50]⟩, .string ⟨#[102, 50]⟩, .string ⟨#[49, 51]⟩, .string ⟨#[102, 51]⟩, .string ⟨#[49, 52]⟩, .string ⟨#[102, 52]⟩, .string ⟨#[49, 53]⟩, .string ⟨#[102, 53]⟩, .string ⟨#[49, 55]⟩, .string ⟨#[102, 54]⟩, .string ⟨#[49, 56]⟩, .string ⟨#[102, 55]⟩, .string ⟨#[49, 57]⟩, .string ⟨#[102, 56]⟩, .string ⟨#[50, 48]⟩, .string ⟨#[102, 57]⟩, .string ⟨#[50, 49]⟩, .string ⟨#[102, 49, 48]⟩, .string ⟨#[50, 51]⟩, .string ⟨#[102, 49, 49]⟩, .string ⟨#[50, 52]⟩, .string ⟨#[102, 49, 50]⟩], 109, false⟩) :: (L)) := Lies.then H83 K85
                  iterate 3 refine RW.v ?_
                  refine RW.ld H86 1 1 ?_
                  refine RW.lkL H86 0 (.int .i64 2097163) ?_
                  refine RW.v ?_
                  refine RW.nil ?_
                  refine ⟨⟨by kernel_rfl, ⟨trivial, trivial, trivial, trivial, dyn_row (H86.get 1 rfl) (H86.get 1 rfl) ⟨fun _ => H83.get 0 rfl, fun h => Bool.noConfusion h, fun h => Bool.noConfusion h, fun h => Bool.noConfusion h, fun h => Bool.noConfusion h, fun _ => H86.get 1 rfl, fun h => Bool.noConfusion h, trivial⟩, trivial, trivial, trivial⟩⟩, ?_⟩
                  replace H := H86
                  clear H83 H86
                  replace H := ((H.del 1).del 0)
                  dsimp only [setL, delL] at H
                  refine W.ret ?_
                  refine blkQ_ret ?_
                  refine seqQ_ret ?_
                  refine onceQ_ret ?_
                  refine blkQ_ret ?_
                  refine seqQ_ret ?_
                  refine endG (by rfl) (by exact resL_tmp rfl) ?_
                  have ec : numM bs = 2097163 := by unfold numM; repeat (first | rw [if_pos (by assumption)] | rw [if_neg (by assumption)])
                  rw [ec]
                  exact ⟨rfl, H⟩
                 ·have hc82b := hc82
                  have hc82 := ne_of_beq_false hc82
                  refine W.skip ?_
                  refine blkQ_normal ?_
                  refine W.region ?_
                  iterate 3 refine RW.v ?_
                  refine RW.nil ?_
                  refine WL.once ?_
                  refine W.rg [(0, .string ⟨bs.toArray⟩), (3, .pointer (some ⟨b1, 0, none⟩)), (4, .int .i64 34)] fun TA => ?_
                  refine W.seq ?_
                  refine W.seq (W.region ?_)
                  iterate 2 refine RW.v ?_
                  refine RW.nil ?_
                  refine W.c1 ?_
                  refine W.skip ?_
                  refine W.seq ?_
                  refine W.block ?_
                  refine W.seq (W.region ?_)
                  iterate 2 refine RW.v ?_
                  refine RW.ld H 0 1 ?_
                  refine RW.v ?_
                  refine RW.vop (v := .bool (([50, 52] : List UInt8) == bs)) (by kernel_rfl) (by kernel_rfl) (vop_sEq rfl rfl rfl rfl) (by kernel_rfl) ?_
                  refine RW.nil ?_
                  refine W.rg [(0, .string ⟨bs.toArray⟩), (3, .pointer (some ⟨b1, 0, none⟩)), (4, .int .i64 34), (14, .bool (([50, 52] : List UInt8) == bs))] fun TA => ?_
                  refine W.cond rfl (fun hc87 => ?_) (fun hc87 => ?_)
                  ·have hc87b := hc87
                   have hc87 := eq_of_beq hc87
                   refine W.seq ?_
                   refine W.drawn (by kernel_rfl) (by kernel_rfl) H.gn ?_
                   have H88 := H
                   refine RW.cl ?_
                   refine ((table_wc (Lies.start H88.gn H88.abs)).mono ?_)
                   rintro _ _ ⟨mb89, rfl, K90⟩
                   have H91 : Lies G (A) F _ (.at_ mb89 (.ents tabE 27) :: .at_ b1 (.row ⟨[.string ⟨#[49]⟩, .string ⟨#[104, 111, 109, 101]⟩, .string ⟨#[50]⟩, .string ⟨#[105, 110, 115, 101, 114, 116]⟩, .string ⟨#[51]⟩, .string ⟨#[100, 101, 108, 101, 116, 101]⟩, .string ⟨#[52]⟩, .string ⟨#[101, 110, 100]⟩, .string ⟨#[53]⟩, .string ⟨#[112, 114, 105, 111, 114]⟩, .string ⟨#[54]⟩, .string ⟨#[110, 101, 120, 116]⟩, .string ⟨#[49, 49]⟩, .string ⟨#[102, 49]⟩, .string ⟨#[49, 50]⟩, .string ⟨#[102, 50]⟩, .string ⟨#[49, 51]⟩, .string ⟨#[102, 51]⟩, .string ⟨#[49, 52]⟩, .string ⟨#[102, 52]⟩, .string ⟨#[49, 53]⟩, .string ⟨#[102, 53]⟩, .string ⟨#[49, 55]⟩, .string ⟨#[102, 54]⟩, .string ⟨#[49, 56]⟩, .string ⟨#[102, 55]⟩, .string ⟨#[49, 57]⟩, .string ⟨#[102, 56]⟩, .string ⟨#[50, 48]⟩, .string ⟨#[102, 57]⟩, .string ⟨#[50, 49]⟩, .string ⟨#[102, 49, 48]⟩, .string ⟨#[50, 51]⟩, .string ⟨#[102, 49, 49]⟩, .string ⟨#[50, 52]⟩, .string ⟨#[102, 49, 50]⟩], 109, false⟩) :: (L)) := Lies.then H88 K90
                   iterate 3 refine RW.v ?_
                   refine RW.ld H91 1 1 ?_
                   refine RW.lkL H91 0 (.int .i64 2097164) ?_
                   refine RW.v ?_
                   refine RW.nil ?_
                   refine ⟨⟨by kernel_rfl, ⟨trivial, trivial, trivial, trivial, dyn_row (H91.get 1 rfl) (H91.get 1 rfl) ⟨fun _ => H88.get 0 rfl, fun h => Bool.noConfusion h, fun h => Bool.noConfusion h, fun h => Bool.noConfusion h, fun h => Bool.noConfusion h, fun _ => H91.get 1 rfl, fun h => Bool.noConfusion h, trivial⟩, trivial, trivial, trivial⟩⟩, ?_⟩
                   replace H := H91
                   clear H88 H91
                   replace H := ((H.del 1).del 0)
                   dsimp only [setL, delL] at H
                   refine W.ret ?_
                   refine blkQ_ret ?_
                   refine seqQ_ret ?_
                   refine onceQ_ret ?_
                   refine blkQ_ret ?_
                   refine seqQ_ret ?_
                   refine endG (by rfl) (by exact resL_tmp rfl) ?_
                   have ec : numM bs = 2097164 := by unfold numM; repeat (first | rw [if_pos (by assumption)] | rw [if_neg (by assumption)])
                   rw [ec]
                   exact ⟨rfl, H⟩
                  ·have hc87b := hc87
                   have hc87 := ne_of_beq_false hc87
                   refine W.skip ?_
                   refine blkQ_normal ?_
                   refine W.region ?_
                   iterate 3 refine RW.v ?_
                   refine RW.nil ?_
                   refine WL.once ?_
                   refine W.rg [(0, .string ⟨bs.toArray⟩), (3, .pointer (some ⟨b1, 0, none⟩)), (4, .int .i64 36)] fun TA => ?_
                   refine W.seq ?_
                   refine W.seq (W.region ?_)
                   iterate 2 refine RW.v ?_
                   refine RW.nil ?_
                   refine W.c0 ?_
                   refine W.exit _ ?_
                   refine seqQ_exit ?_
                   refine onceQ_exit ?_
                   refine blkQ_here ?_
                   refine W.seq (W.region ?_)
                   refine RW.v ?_
                   refine RW.nil ?_
                   replace H := (H.del 0)
                   dsimp only [setL, delL] at H
                   refine W.ret ?_
                   refine endG (by rfl) (by exact resL_tmp rfl) ?_
                   have ec : numM bs = -1 := by unfold numM; repeat (first | rw [if_pos (by assumption)] | rw [if_neg (by assumption)])
                   rw [ec]
                   exact ⟨rfl, H⟩
open Go.RowKit in
theorem s_index {bs : List UInt8} : SCall G Tryd.prog 75 #[.string ⟨bs.toArray⟩, .string ⟨#[59]⟩] σ (.int .i64 (indexByte bs 59)) σ :=
 below_call rfl rfl fun w => (Tryd.stringslite_Index_one ⟨bs.toArray⟩ 59 w).mono fun e w' ⟨k1, k2⟩ => ⟨k1, k2 ▸ Below.refl _ _⟩
set_option maxHeartbeats 4000000 in
theorem cut_wc {bs : List UInt8} (hn : bs.length ≤ 1000000) (H : Lies G A F σ L) : WC G Tryd.prog 31 #[.string ⟨bs.toArray⟩, .string ⟨#[59]⟩] σ fun r σ' => r = .tuple #[.string ⟨(cutM bs).1.toArray⟩, .string ⟨(cutM bs).2.1.toArray⟩, .bool (cutM bs).2.2] ∧ Lies G A F σ' L := by
 refine WC.enter (fn := Tryd.f31) Tryd.func31 rfl ?_
 refine W.rg [(0, .string ⟨bs.toArray⟩), (1, .string ⟨#[59]⟩)] fun TA => ?_
 refine W.seq (W.region ?_)
 iterate 3 refine RW.v ?_
 refine RW.nil ?_
 refine W.rg [(0, .string ⟨bs.toArray⟩), (1, .string ⟨#[59]⟩)] fun TA => ?_
 refine W.seq (W.region ?_)
 iterate 2 refine RW.v ?_
 refine RW.cl ?_
 refine WC.enter (fn := Tryd.f50) Tryd.func50 rfl ?_
 refine W.rg [(0, .string ⟨bs.toArray⟩), (1, .string ⟨#[59]⟩)] fun TA => ?_
 refine W.seq (W.region ?_)
 iterate 3 refine RW.v ?_
 refine RW.nil ?_
 refine W.rg [(0, .string ⟨bs.toArray⟩), (1, .string ⟨#[59]⟩)] fun TA => ?_
 refine W.seq ?_
 refine W.seq (W.region ?_)
 iterate 2 refine RW.v ?_
 refine RW.cl ?_
 refine ⟨_, _, (s_index (bs := bs)), ?_⟩
 refine RW.v ?_
 refine RW.nil ?_
 refine W.rg [(0, .string ⟨bs.toArray⟩), (1, .string ⟨#[59]⟩), (7, .int .i64 (indexByte bs 59))] fun TA => ?_
 refine W.seq (W.region ?_)
 iterate 2 refine RW.v ?_
 refine RW.nil ?_
 refine W.rg [(0, .string ⟨bs.toArray⟩), (1, .string ⟨#[59]⟩), (7, .int .i64 (indexByte bs 59)), (12, .bool (decide ((indexByte bs 59) ≥ 0)))] fun TA => ?_
 refine W.cond rfl (fun hc1 => ?_) (fun hc1 => ?_)
 ·have hc1b := hc1
  have hc1 := of_decide_eq_true hc1
  have hge : 0 ≤ indexByte bs 59 := by omega
  have hlt := index_lt 59 bs hge
  refine W.seq ?_
  refine W.drawn (by kernel_rfl) (by kernel_rfl) H.gn ?_
  have H2 := H
  iterate 2 refine RW.v ?_
  refine RW.vop (v := .string ⟨(bs.take (((indexByte bs 59)).toNat)).toArray⟩) (by kernel_rfl) (by kernel_rfl) (vop_sHeadL (a := bs) (j := ((indexByte bs 59)).toNat) rfl rfl (congrArg (Value.int .i64) (show (indexByte bs 59) = ((((indexByte bs 59)).toNat : Nat) : Int) by omega)) Tryd.underlying9 (by omega)) (by kernel_rfl) ?_
  iterate 3 refine RW.v ?_
  refine RW.vop (v := .int .i64 1) (by kernel_rfl) (by kernel_rfl) (vop_sLenL (a := ([59] : List UInt8)) rfl rfl rfl rfl Tryd.underlying9 rfl) (by kernel_rfl) ?_
  refine RW.valE (v' := .int .i64 ((indexByte bs 59) + 1)) (by kernel_rfl) (by kernel_rfl) rfl (congrArg (Value.int .i64) (wrap_in (by omega) (by omega))) (by kernel_rfl) ?_
  refine RW.vop (v := .string ⟨(bs.drop (((indexByte bs 59) + 1).toNat)).toArray⟩) (by kernel_rfl) (by kernel_rfl) (vop_sTailL (a := bs) (j := ((indexByte bs 59) + 1).toNat) rfl rfl (congrArg (Value.int .i64) (show (indexByte bs 59) + 1 = ((((indexByte bs 59) + 1).toNat : Nat) : Int) by omega)) Tryd.underlying9 (by omega)) (by kernel_rfl) ?_
  iterate 3 refine RW.v ?_
  refine RW.nil ?_
  refine ⟨⟨by kernel_rfl, ⟨trivial, trivial, trivial, trivial, trivial, trivial, trivial, trivial, trivial, trivial, trivial, trivial, trivial⟩⟩, ?_⟩
  replace H := H2
  clear H2
  refine W.ret ?_
  refine seqQ_ret ?_
  refine endG (by rfl) (by exact resL_tmp (by exact resL_tmp (by exact resL_tmp rfl))) ?_
  iterate 6 refine RW.v ?_
  refine RW.nil ?_
  refine W.ret ?_
  refine endG (by rfl) (by exact resL_tmp (by exact resL_tmp (by exact resL_tmp rfl))) ?_
  have ec : cutM bs = (bs.take (indexByte bs 59).toNat, bs.drop ((indexByte bs 59).toNat + 1), true) := if_pos hge
  rw [ec, show (indexByte bs 59).toNat + 1 = (indexByte bs 59 + 1).toNat by omega]
  exact ⟨rfl, H⟩
 ·have hc1b := hc1
  have hc1 := of_decide_eq_false hc1
  refine W.skip ?_
  refine W.seq (W.region ?_)
  iterate 4 refine RW.v ?_
  refine RW.nil ?_
  refine W.ret ?_
  refine endG (by rfl) (by exact resL_tmp (by exact resL_tmp (by exact resL_tmp rfl))) ?_
  iterate 6 refine RW.v ?_
  refine RW.nil ?_
  refine W.ret ?_
  refine endG (by rfl) (by exact resL_tmp (by exact resL_tmp (by exact resL_tmp rfl))) ?_
  have ec : cutM bs = (bs, [], false) := if_neg (by omega)
  rw [ec]
  exact ⟨rfl, H⟩
end
end Go.Proofs.YtpjpefcpbkmilaaDoor
