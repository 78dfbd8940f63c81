/-
  Contract of the reference's point. Conditions: the string is not empty, of at most 10^12 bytes.
-/
import Derived.Test.YtmlmnbcnfalaaaaDoorR1
namespace Go.Proofs.YtmlmnbcnfalaaaaDoor
open Go.RowKit Go.Lib
set_option maxRecDepth 100000

set_option maxHeartbeats 2000000 in
theorem point1 (s : ByteArray) (w : World) (_hs : s.size ≤ 1000000000000) (h0 : 0 < s.size) (h1 : (s.data.toList.getD 0 0).toNat < 128) : Calls Tryd.prog 40 #[.string s] w (PtPost s.data.toList w) := by
 have hl : s.data.toList.length = s.size := by simp
 have b0 := byte_at s 0 h0
 have E := Lib.hid (pt1 s.data.toList h1)
 generalize hx : s.data.toList.getD 0 0 = x0 at b0 h1 E
 have l0 : x0.toNat < 256 := x0.toNat_lt
 have h1z : (x0.toNat : Int) < 128 := by omega
 clear hx hl
 go_enter Tryd.func40, Tryd.ntmps40
 go_wp2
 go_ret2
 refine ⟨?_, 0, rfl⟩
 rw [E.out]
 rfl

set_option maxHeartbeats 2000000 in
theorem point2 (s : ByteArray) (w : World) (hs : s.size ≤ 1000000000000) (h0 : 0 < s.size) (h1 : 194 ≤ (s.data.toList.getD 0 0).toNat) (h2 : (s.data.toList.getD 0 0).toNat < 224) (t1 : tailB s.data.toList 1 = true) : Calls Tryd.prog 40 #[.string s] w (PtPost s.data.toList w) := by
 have hl : s.data.toList.length = s.size := by simp
 have b0 := byte_at s 0 h0
 have T1 := Lib.hid (fun w' => tail_any s 1 w' hs (by omega))
 rw [t1] at T1
 have E := Lib.hid (pt2 s.data.toList h1 h2 t1)
 obtain ⟨q0, q1, q2⟩ := (tailB_iff _ _).1 t1
 rw [hl] at q0
 have b1 := byte_at s 1 q0
 generalize s.data.toList.getD 0 0 = x0 at b0 h1 h2 E
 generalize s.data.toList.getD 1 0 = x1 at b1 q1 q2 E
 have h1z : (194 : Int) ≤ (x0.toNat : Int) := by omega
 have h2z : (x0.toNat : Int) < 224 := by omega
 have q1z : (128 : Int) ≤ (x1.toNat : Int) := by omega
 have q2z : (x1.toNat : Int) < 192 := by omega
 have q0z : (1 : Int) < (s.size : Int) := by omega
 clear hl t1
 go_enter Tryd.func40, Tryd.ntmps40
 go_wp2_with fail
 refine (T1.out _).mono ?_
 rintro e w' ⟨rfl, rfl⟩
 go_wp2
 go_ret2
 refine ⟨?_, 0, rfl⟩
 rw [E.out]
 have e1 : (((x0.toNat - 192) * 64 + x1.toNat - 128 : Nat) : Int) = ((x0.toNat : Int) - 192) * 64 + (x1.toNat : Int) - 128 := by omega
 rw [e1]
 rfl

set_option maxHeartbeats 2000000 in
theorem pointA (s : ByteArray) (w : World) (_hs : s.size ≤ 1000000000000) (h0 : 0 < s.size) (h1 : 128 ≤ (s.data.toList.getD 0 0).toNat) (h2 : (s.data.toList.getD 0 0).toNat < 194) : Calls Tryd.prog 40 #[.string s] w (PtPost s.data.toList w) := by
 have hl : s.data.toList.length = s.size := by simp
 have b0 := byte_at s 0 h0
 have E := Lib.hid (pt0 s.data.toList (by omega) (.inl h2) (.inl (by omega)) (.inl (by omega)))
 generalize s.data.toList.getD 0 0 = x0 at b0 h1 h2
 have l0 : x0.toNat < 256 := x0.toNat_lt
 have z1 := h1
 have z2 := h2
 clear hl 
 go_enter Tryd.func40, Tryd.ntmps40
 go_wp2
 go_ret2
 refine ⟨?_, 0, rfl⟩
 rw [E.out]
 rfl

set_option maxHeartbeats 2000000 in
theorem pointB (s : ByteArray) (w : World) (_hs : s.size ≤ 1000000000000) (h0 : 0 < s.size) (h1 : 245 ≤ (s.data.toList.getD 0 0).toNat) (h2 : (s.data.toList.getD 0 0).toNat < 256) : Calls Tryd.prog 40 #[.string s] w (PtPost s.data.toList w) := by
 have hl : s.data.toList.length = s.size := by simp
 have b0 := byte_at s 0 h0
 have E := Lib.hid (pt0 s.data.toList (by omega) (.inr (.inl (by omega))) (.inr (.inl (by omega))) (.inr (.inl h1)))
 generalize s.data.toList.getD 0 0 = x0 at b0 h1 h2
 have l0 : x0.toNat < 256 := x0.toNat_lt
 have z1 := h1
 have z2 := h2
 clear hl 
 go_enter Tryd.func40, Tryd.ntmps40
 go_wp2
 go_ret2
 refine ⟨?_, 0, rfl⟩
 rw [E.out]
 rfl

set_option maxHeartbeats 2000000 in
theorem pointC (s : ByteArray) (w : World) (hs : s.size ≤ 1000000000000) (h0 : 0 < s.size) (h1 : 194 ≤ (s.data.toList.getD 0 0).toNat) (h2 : (s.data.toList.getD 0 0).toNat < 224) (t1 : tailB s.data.toList 1 = false) : Calls Tryd.prog 40 #[.string s] w (PtPost s.data.toList w) := by
 have hl : s.data.toList.length = s.size := by simp
 have b0 := byte_at s 0 h0
 have T1 := Lib.hid (fun w' => tail_any s 1 w' hs (by omega))
 rw [t1] at T1
 have E := Lib.hid (pt0 s.data.toList (by omega) (.inr (.inr t1)) (.inl h2) (.inl (by omega)))
 generalize s.data.toList.getD 0 0 = x0 at b0 h1 h2
 have l0 : x0.toNat < 256 := x0.toNat_lt
 have z1 := h1
 have z2 := h2
 clear hl t1
 go_enter Tryd.func40, Tryd.ntmps40
 go_wp2_with fail
 refine (T1.out _).mono ?_
 rintro e w' ⟨rfl, rfl⟩
 go_wp2
 go_ret2
 refine ⟨?_, 0, rfl⟩
 rw [E.out]
 rfl

set_option maxHeartbeats 2000000 in
theorem pointD (s : ByteArray) (w : World) (hs : s.size ≤ 1000000000000) (h0 : 0 < s.size) (h1 : 224 ≤ (s.data.toList.getD 0 0).toNat) (h2 : (s.data.toList.getD 0 0).toNat < 240) (t1 : tailB s.data.toList 1 = false) : Calls Tryd.prog 40 #[.string s] w (PtPost s.data.toList w) := by
 have hl : s.data.toList.length = s.size := by simp
 have b0 := byte_at s 0 h0
 have T1 := Lib.hid (fun w' => tail_any s 1 w' hs (by omega))
 rw [t1] at T1
 have E := Lib.hid (pt0 s.data.toList (by omega) (.inr (.inl h1)) (.inr (.inr (.inl t1))) (.inl h2))
 generalize s.data.toList.getD 0 0 = x0 at b0 h1 h2
 have l0 : x0.toNat < 256 := x0.toNat_lt
 have z1 := h1
 have z2 := h2
 clear hl t1
 go_enter Tryd.func40, Tryd.ntmps40
 go_wp2_with fail
 refine (T1.out _).mono ?_
 rintro e w' ⟨rfl, rfl⟩
 go_wp2
 go_ret2
 refine ⟨?_, 0, rfl⟩
 rw [E.out]
 rfl

set_option maxHeartbeats 2000000 in
theorem pointE (s : ByteArray) (w : World) (hs : s.size ≤ 1000000000000) (h0 : 0 < s.size) (h1 : 224 ≤ (s.data.toList.getD 0 0).toNat) (h2 : (s.data.toList.getD 0 0).toNat < 240) (t1 : tailB s.data.toList 1 = true) (t2 : tailB s.data.toList 2 = false) : Calls Tryd.prog 40 #[.string s] w (PtPost s.data.toList w) := by
 have hl : s.data.toList.length = s.size := by simp
 have b0 := byte_at s 0 h0
 have T1 := Lib.hid (fun w' => tail_any s 1 w' hs (by omega))
 rw [t1] at T1
 have T2 := Lib.hid (fun w' => tail_any s 2 w' hs (by omega))
 rw [t2] at T2
 have E := Lib.hid (pt0 s.data.toList (by omega) (.inr (.inl h1)) (.inr (.inr (.inr t2))) (.inl h2))
 generalize s.data.toList.getD 0 0 = x0 at b0 h1 h2
 have l0 : x0.toNat < 256 := x0.toNat_lt
 have z1 := h1
 have z2 := h2
 clear hl t1 t2
 go_enter Tryd.func40, Tryd.ntmps40
 go_wp2_with fail
 refine (T1.out _).mono ?_
 rintro e w' ⟨rfl, rfl⟩
 go_wp2_with fail
 refine (T2.out _).mono ?_
 rintro e w' ⟨rfl, rfl⟩
 go_wp2
 go_ret2
 refine ⟨?_, 0, rfl⟩
 rw [E.out]
 rfl

set_option maxHeartbeats 2000000 in
theorem pointF (s : ByteArray) (w : World) (hs : s.size ≤ 1000000000000) (h0 : 0 < s.size) (h1 : 240 ≤ (s.data.toList.getD 0 0).toNat) (h2 : (s.data.toList.getD 0 0).toNat < 245) (t1 : tailB s.data.toList 1 = false) : Calls Tryd.prog 40 #[.string s] w (PtPost s.data.toList w) := by
 have hl : s.data.toList.length = s.size := by simp
 have b0 := byte_at s 0 h0
 have T1 := Lib.hid (fun w' => tail_any s 1 w' hs (by omega))
 rw [t1] at T1
 have E := Lib.hid (pt0 s.data.toList (by omega) (.inr (.inl (by omega))) (.inr (.inl h1)) (.inr (.inr (.inl t1))))
 generalize s.data.toList.getD 0 0 = x0 at b0 h1 h2
 have l0 : x0.toNat < 256 := x0.toNat_lt
 have z1 := h1
 have z2 := h2
 clear hl t1
 go_enter Tryd.func40, Tryd.ntmps40
 go_wp2_with fail
 refine (T1.out _).mono ?_
 rintro e w' ⟨rfl, rfl⟩
 go_wp2
 go_ret2
 refine ⟨?_, 0, rfl⟩
 rw [E.out]
 rfl

set_option maxHeartbeats 2000000 in
theorem pointG (s : ByteArray) (w : World) (hs : s.size ≤ 1000000000000) (h0 : 0 < s.size) (h1 : 240 ≤ (s.data.toList.getD 0 0).toNat) (h2 : (s.data.toList.getD 0 0).toNat < 245) (t1 : tailB s.data.toList 1 = true) (t2 : tailB s.data.toList 2 = false) : Calls Tryd.prog 40 #[.string s] w (PtPost s.data.toList w) := by
 have hl : s.data.toList.length = s.size := by simp
 have b0 := byte_at s 0 h0
 have T1 := Lib.hid (fun w' => tail_any s 1 w' hs (by omega))
 rw [t1] at T1
 have T2 := Lib.hid (fun w' => tail_any s 2 w' hs (by omega))
 rw [t2] at T2
 have E := Lib.hid (pt0 s.data.toList (by omega) (.inr (.inl (by omega))) (.inr (.inl h1)) (.inr (.inr (.inr (.inl t2)))))
 generalize s.data.toList.getD 0 0 = x0 at b0 h1 h2
 have l0 : x0.toNat < 256 := x0.toNat_lt
 have z1 := h1
 have z2 := h2
 clear hl t1 t2
 go_enter Tryd.func40, Tryd.ntmps40
 go_wp2_with fail
 refine (T1.out _).mono ?_
 rintro e w' ⟨rfl, rfl⟩
 go_wp2_with fail
 refine (T2.out _).mono ?_
 rintro e w' ⟨rfl, rfl⟩
 go_wp2
 go_ret2
 refine ⟨?_, 0, rfl⟩
 rw [E.out]
 rfl

set_option maxHeartbeats 2000000 in
theorem pointH (s : ByteArray) (w : World) (hs : s.size ≤ 1000000000000) (h0 : 0 < s.size) (h1 : 240 ≤ (s.data.toList.getD 0 0).toNat) (h2 : (s.data.toList.getD 0 0).toNat < 245) (t1 : tailB s.data.toList 1 = true) (t2 : tailB s.data.toList 2 = true) (t3 : tailB s.data.toList 3 = false) : Calls Tryd.prog 40 #[.string s] w (PtPost s.data.toList w) := by
 have hl : s.data.toList.length = s.size := by simp
 have b0 := byte_at s 0 h0
 have T1 := Lib.hid (fun w' => tail_any s 1 w' hs (by omega))
 rw [t1] at T1
 have T2 := Lib.hid (fun w' => tail_any s 2 w' hs (by omega))
 rw [t2] at T2
 have T3 := Lib.hid (fun w' => tail_any s 3 w' hs (by omega))
 rw [t3] at T3
 have E := Lib.hid (pt0 s.data.toList (by omega) (.inr (.inl (by omega))) (.inr (.inl h1)) (.inr (.inr (.inr (.inr t3)))))
 generalize s.data.toList.getD 0 0 = x0 at b0 h1 h2
 have l0 : x0.toNat < 256 := x0.toNat_lt
 have z1 := h1
 have z2 := h2
 clear hl t1 t2 t3
 go_enter Tryd.func40, Tryd.ntmps40
 go_wp2_with fail
 refine (T1.out _).mono ?_
 rintro e w' ⟨rfl, rfl⟩
 go_wp2_with fail
 refine (T2.out _).mono ?_
 rintro e w' ⟨rfl, rfl⟩
 go_wp2_with fail
 refine (T3.out _).mono ?_
 rintro e w' ⟨rfl, rfl⟩
 go_wp2
 go_ret2
 refine ⟨?_, 0, rfl⟩
 rw [E.out]
 rfl

end Go.Proofs.YtmlmnbcnfalaaaaDoor
