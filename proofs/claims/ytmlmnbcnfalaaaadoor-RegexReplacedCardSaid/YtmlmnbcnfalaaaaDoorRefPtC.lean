/-
  Contract of the reference's point. Conditions: the string is not empty, of at most 10^12 bytes.
-/
import Derived.Test.YtmlmnbcnfalaaaaDoorR1
namespace Go.Proofs.YtmlmnbcnfalaaaaDoor
open Go.RowKit Go.Lib
set_option maxRecDepth 100000

set_option maxHeartbeats 2000000 in
theorem point4good (s : ByteArray) (w : World) (hs : s.size ≤ 1000000000000) (h0 : 0 < s.size) (h1 : 240 ≤ (s.data.toList.getD 0 0).toNat) (h2 : (s.data.toList.getD 0 0).toNat < 245) (t1 : tailB s.data.toList 1 = true) (t2 : tailB s.data.toList 2 = true) (t3 : tailB s.data.toList 3 = true) (c : Nat) (hc : (c : Int) = (((((s.data.toList.getD 0 0).toNat : Int) - 240) * 64 + ((s.data.toList.getD 1 0).toNat : Int) - 128) * 64 + ((s.data.toList.getD 2 0).toNat : Int) - 128) * 64 + ((s.data.toList.getD 3 0).toNat : Int) - 128) (hr : 65536 ≤ c ∧ chB c = true) : Calls Tryd.prog 40 #[.string s] w (PtPost s.data.toList w) := by
 have hl : s.data.toList.length = s.size := by simp
 have b0 := byte_at s 0 h0
 have T1 := Lib.hid (fun w' => tail_any s 1 w' hs (by omega))
 rw [t1] at T1
 have T2 := Lib.hid (fun w' => tail_any s 2 w' hs (by omega))
 rw [t2] at T2
 have T3 := Lib.hid (fun w' => tail_any s 3 w' hs (by omega))
 rw [t3] at T3
 have e0 := pt4 s.data.toList h1 h2 t1 t2 t3 c hc
 rw [if_pos hr] at e0
 have E := Lib.hid e0
 clear e0
 have IS := Lib.hid (fun w' => ref_is (c : Int) w')
 rw [hr.2] at IS
 have hr1 := hr.1
 obtain ⟨q10, q11, q12⟩ := (tailB_iff _ _).1 t1
 rw [hl] at q10
 have b1 := byte_at s 1 q10
 obtain ⟨q20, q21, q22⟩ := (tailB_iff _ _).1 t2
 rw [hl] at q20
 have b2 := byte_at s 2 q20
 obtain ⟨q30, q31, q32⟩ := (tailB_iff _ _).1 t3
 rw [hl] at q30
 have b3 := byte_at s 3 q30
 generalize s.data.toList.getD 0 0 = x0 at b0 h1 h2 hc
 generalize s.data.toList.getD 1 0 = x1 at b1 q11 q12 hc
 generalize s.data.toList.getD 2 0 = x2 at b2 q21 q22 hc
 generalize s.data.toList.getD 3 0 = x3 at b3 q31 q32 hc
 have z1 : (240 : Int) ≤ (x0.toNat : Int) := by omega
 have z2 : (x0.toNat : Int) < 245 := by omega
 have z1a : (128 : Int) ≤ (x1.toNat : Int) := by omega
 have z1b : (x1.toNat : Int) < 192 := by omega
 have z1c : (1 : Int) < (s.size : Int) := by omega
 have z2a : (128 : Int) ≤ (x2.toNat : Int) := by omega
 have z2b : (x2.toNat : Int) < 192 := by omega
 have z2c : (2 : Int) < (s.size : Int) := by omega
 have z3a : (128 : Int) ≤ (x3.toNat : Int) := by omega
 have z3b : (x3.toNat : Int) < 192 := by omega
 have z3c : (3 : Int) < (s.size : Int) := by omega
 obtain ⟨a1, f0⟩ : ∃ a1, (x0.toNat : Int) - 240 = a1 := ⟨_, rfl⟩
 have g0 : 0 ≤ a1 ∧ a1 ≤ 100000000 := by omega
 obtain ⟨g0a, g0b⟩ := g0
 obtain ⟨a2, f1⟩ : ∃ a2, a1 * 64 = a2 := ⟨_, rfl⟩
 have g1 : 0 ≤ a2 ∧ a2 ≤ 100000000 := by omega
 obtain ⟨g1a, g1b⟩ := g1
 obtain ⟨a3, f2⟩ : ∃ a3, a2 + (x1.toNat : Int) = a3 := ⟨_, rfl⟩
 have g2 : 0 ≤ a3 ∧ a3 ≤ 100000000 := by omega
 obtain ⟨g2a, g2b⟩ := g2
 obtain ⟨a4, f3⟩ : ∃ a4, a3 - 128 = a4 := ⟨_, rfl⟩
 have g3 : 0 ≤ a4 ∧ a4 ≤ 100000000 := by omega
 obtain ⟨g3a, g3b⟩ := g3
 obtain ⟨a5, f4⟩ : ∃ a5, a4 * 64 = a5 := ⟨_, rfl⟩
 have g4 : 0 ≤ a5 ∧ a5 ≤ 100000000 := by omega
 obtain ⟨g4a, g4b⟩ := g4
 obtain ⟨a6, f5⟩ : ∃ a6, a5 + (x2.toNat : Int) = a6 := ⟨_, rfl⟩
 have g5 : 0 ≤ a6 ∧ a6 ≤ 100000000 := by omega
 obtain ⟨g5a, g5b⟩ := g5
 obtain ⟨a7, f6⟩ : ∃ a7, a6 - 128 = a7 := ⟨_, rfl⟩
 have g6 : 0 ≤ a7 ∧ a7 ≤ 100000000 := by omega
 obtain ⟨g6a, g6b⟩ := g6
 obtain ⟨a8, f7⟩ : ∃ a8, a7 * 64 = a8 := ⟨_, rfl⟩
 have g7 : 0 ≤ a8 ∧ a8 ≤ 100000000 := by omega
 obtain ⟨g7a, g7b⟩ := g7
 obtain ⟨a9, f8⟩ : ∃ a9, a8 + (x3.toNat : Int) = a9 := ⟨_, rfl⟩
 have g8 : 0 ≤ a9 ∧ a9 ≤ 100000000 := by omega
 obtain ⟨g8a, g8b⟩ := g8
 have f9 : a9 - 128 = (c : Int) := by omega
 have hr2 : (c : Int) ≤ 2000000 := by omega
 clear hl hr hc t1 t2 t3
 go_enter Tryd.func40, Tryd.ntmps40
 go_wp2_with fail
 refine (T1.out _).mono ?_
 rintro e w' ⟨rfl, rfl⟩
 go_wp2_with fail
 refine (T2.out _).mono ?_
 rintro e w' ⟨rfl, rfl⟩
 go_wp2_with fail
 refine (T3.out _).mono ?_
 rintro e w' ⟨rfl, rfl⟩
 go_wp2_with fail
 go_quiet (fail)
 have lz : (65536 : Int) ≤ (c : Int) := by omega
 go_wp2_with fail
 refine (IS.out _).mono ?_
 rintro e w' ⟨rfl, rfl⟩
 go_wp2
 go_ret2
 refine ⟨?_, _, rfl⟩
 rw [E.out]
 rfl

end Go.Proofs.YtmlmnbcnfalaaaaDoor
