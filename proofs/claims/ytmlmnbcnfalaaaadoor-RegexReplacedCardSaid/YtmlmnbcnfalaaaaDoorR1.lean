/-
  Contracts of the reference's Is, in, Width, small, Up, Down, Fold, Word. Conditions: none.
  Contracts of the reference's tail and point. Conditions: sizes as stated.
  Contract of the reference's point. Conditions: the string is not empty, of at most 10^12 bytes.
-/
import Derived.Test.YtmlmnbcnfalaaaaDoorL6
namespace Go.Proofs.YtmlmnbcnfalaaaaDoor
open Go.RowKit Go.Lib
set_option maxRecDepth 100000

theorem ref_is (c : Int) (w : World) : Calls Tryd.prog 62 #[.int .i64 c] w fun e w' => e = .returned (.bool (chB c)) ∧ w = w' := by
 by_cases h0 : 0 ≤ c
 ·by_cases h1 : c ≤ 1114111
  ·by_cases h2 : c < 55296
   ·have e : chB c = true := by rw [chB_iff]; omega
    rw [e]; clear e
    go_enter Tryd.func62, Tryd.ntmps62
    go_wp2
    go_ret
    exact ⟨rfl, rfl⟩
   ·by_cases h3 : 57343 < c
    ·have e : chB c = true := by rw [chB_iff]; omega
     rw [e]; clear e
     go_enter Tryd.func62, Tryd.ntmps62
     go_wp2
     go_ret
     exact ⟨rfl, rfl⟩
    ·have e : chB c = false := by simp only [chB, decide_eq_false_iff_not]; omega
     rw [e]; clear e
     go_enter Tryd.func62, Tryd.ntmps62
     go_wp2
     go_ret
     exact ⟨rfl, rfl⟩
  ·have e : chB c = false := by simp only [chB, decide_eq_false_iff_not]; omega
   rw [e]; clear e
   go_enter Tryd.func62, Tryd.ntmps62
   go_wp2
   go_ret
   exact ⟨rfl, rfl⟩
 ·have e : chB c = false := by simp only [chB, decide_eq_false_iff_not]; omega
  rw [e]; clear e
  go_enter Tryd.func62, Tryd.ntmps62
  go_wp2
  go_ret
  exact ⟨rfl, rfl⟩

end Go.Proofs.YtmlmnbcnfalaaaaDoor
namespace Go.Proofs.YtmlmnbcnfalaaaaDoor
open Go.RowKit Go.Lib
set_option maxRecDepth 100000

theorem byte_at (s : ByteArray) (k : Nat) (h : k < s.size) : s[k] = s.data.toList.getD k 0 := by
 have h' : k < s.data.toList.length := by simpa using h
 rw [List.getD_eq_getElem?_getD, List.getElem?_eq_getElem h', Option.getD_some]
 rfl
def tailB (l : List UInt8) (k : Nat) : Bool := decide (k < l.length) && decide (128 ≤ (l.getD k 0).toNat) && decide ((l.getD k 0).toNat < 192)
theorem tail_any (s : ByteArray) (k : Nat) (w : World) (hs : s.size ≤ 1000000000000) (hk : k ≤ 3) :
    Calls Tryd.prog 61 #[.string s, .int .i64 k] w fun e w' => e = .returned (.bool (tailB s.data.toList k)) ∧ w = w' := by
  have hl : s.data.toList.length = s.size := by simp
  by_cases h : k < s.size
  · have hb := byte_at s k h
    have e : tailB s.data.toList k = (decide (128 ≤ (s.data.toList.getD k 0).toNat) && decide ((s.data.toList.getD k 0).toNat < 192)) := by
      unfold tailB; rw [hl, decide_eq_true h, Bool.true_and]
    rw [e]
    generalize s.data.toList.getD k 0 = x at hb ⊢
    have hx : x.toNat < 256 := x.toNat_lt
    clear e hl
    by_cases h1 : 128 ≤ x.toNat
    · have h1z : (128 : Int) ≤ (x.toNat : Int) := by omega
      rw [decide_eq_true h1, Bool.true_and]
      go_enter Tryd.func61, Tryd.ntmps61
      go_wp2
      all_goals
        go_ret
        exact ⟨ret_bool (by simp; try omega), rfl⟩
    · have h1z : ¬ (128 : Int) ≤ (x.toNat : Int) := by omega
      rw [decide_eq_false h1, Bool.false_and]
      go_enter Tryd.func61, Tryd.ntmps61
      go_wp2
      go_ret
      exact ⟨rfl, rfl⟩
  · have e : tailB s.data.toList k = false := by unfold tailB; rw [hl, decide_eq_false h, Bool.false_and, Bool.false_and]
    rw [e]
    clear e hl
    go_enter Tryd.func61, Tryd.ntmps61
    go_wp2
    go_ret
    exact ⟨rfl, rfl⟩

/-! ### point, plainly -/
def ptOf (l : List UInt8) : Nat × Nat := if (decodeL l).1 = 65533 ∧ (decodeL l).2 = 1 then (0, 0) else decodeL l
theorem ptOf_good {l : List UInt8} {c n : Nat} (h : decodeL l = (c, n)) (hn : ¬ (c = 65533 ∧ n = 1)) : ptOf l = (c, n) := by
 unfold ptOf; rw [h, if_neg hn]
theorem ptOf_bad {l : List UInt8} (h : decodeL l = (65533, 1)) : ptOf l = (0, 0) := by
 unfold ptOf; rw [h, if_pos ⟨rfl, rfl⟩]
theorem tailB_iff (l : List UInt8) (k : Nat) : tailB l k = true ↔ k < l.length ∧ 128 ≤ (l.getD k 0).toNat ∧ (l.getD k 0).toNat < 192 := by
 simp [tailB, and_assoc]
theorem pt1 (l : List UInt8) (h : (l.getD 0 0).toNat < 128) : ptOf l = ((l.getD 0 0).toNat, 1) := by
 refine ptOf_good ?_ (by omega)
 rw [decodeL_N]; unfold decodeN; rw [if_pos h]
theorem pt2 (l : List UInt8) (h : 194 ≤ (l.getD 0 0).toNat) (h' : (l.getD 0 0).toNat < 224) (t : tailB l 1 = true) : ptOf l = (((l.getD 0 0).toNat - 192) * 64 + (l.getD 1 0).toNat - 128, 2) := by
 obtain ⟨t0, t1, t2⟩ := (tailB_iff l 1).1 t
 refine ptOf_good ?_ (by omega)
 rw [decodeL_N]; unfold decodeN
 rw [if_neg (by omega), if_pos (by omega), if_pos (by omega)]
 refine Prod.ext ?_ rfl
 show _ % 32 * 64 + _ % 64 = _
 omega
theorem pt3 (l : List UInt8) (h : 224 ≤ (l.getD 0 0).toNat) (h' : (l.getD 0 0).toNat < 240) (t : tailB l 1 = true) (u : tailB l 2 = true) (c : Nat) (hc : (c : Int) = ((((l.getD 0 0).toNat : Int) - 224) * 64 + ((l.getD 1 0).toNat : Int) - 128) * 64 + ((l.getD 2 0).toNat : Int) - 128) :
    ptOf l = if 2048 ≤ c ∧ chB c = true then (c, 3) else (0, 0) := by
  obtain ⟨t0, t1, t2⟩ := (tailB_iff l 1).1 t
  obtain ⟨u0, u1, u2⟩ := (tailB_iff l 2).1 u
  by_cases k0 : 2048 ≤ c ∧ chB c = true
  · have k : 2048 ≤ c ∧ (0 ≤ (c : Int) ∧ (c : Int) ≤ 1114111 ∧ ((c : Int) < 55296 ∨ 57343 < (c : Int))) := ⟨k0.1, chB_iff.1 k0.2⟩
    rw [if_pos k0]
    refine ptOf_good ?_ (by omega)
    rw [decodeL_N]; unfold decodeN
    rw [if_neg (by omega), if_neg (by omega), if_pos (by omega), if_pos (by omega)]
    refine Prod.ext ?_ rfl
    show _ % 16 * 4096 + _ % 64 * 64 + _ % 64 = _
    omega
  · have k : ¬ (2048 ≤ c ∧ (0 ≤ (c : Int) ∧ (c : Int) ≤ 1114111 ∧ ((c : Int) < 55296 ∨ 57343 < (c : Int)))) := fun h => k0 ⟨h.1, chB_iff.2 h.2⟩
    rw [if_neg k0]
    refine ptOf_bad ?_
    rw [decodeL_N]; unfold decodeN
    rw [if_neg (by omega), if_neg (by omega), if_pos (by omega), if_neg (by omega)]
theorem pt4 (l : List UInt8) (h : 240 ≤ (l.getD 0 0).toNat) (h' : (l.getD 0 0).toNat < 245) (t : tailB l 1 = true) (u : tailB l 2 = true) (v : tailB l 3 = true) (c : Nat)
    (hc : (c : Int) = (((((l.getD 0 0).toNat : Int) - 240) * 64 + ((l.getD 1 0).toNat : Int) - 128) * 64 + ((l.getD 2 0).toNat : Int) - 128) * 64 + ((l.getD 3 0).toNat : Int) - 128) :
    ptOf l = if 65536 ≤ c ∧ chB c = true then (c, 4) else (0, 0) := by
  obtain ⟨t0, t1, t2⟩ := (tailB_iff l 1).1 t
  obtain ⟨u0, u1, u2⟩ := (tailB_iff l 2).1 u
  obtain ⟨v0, v1, v2⟩ := (tailB_iff l 3).1 v
  by_cases k0 : 65536 ≤ c ∧ chB c = true
  · have k : 65536 ≤ c ∧ (0 ≤ (c : Int) ∧ (c : Int) ≤ 1114111 ∧ ((c : Int) < 55296 ∨ 57343 < (c : Int))) := ⟨k0.1, chB_iff.1 k0.2⟩
    rw [if_pos k0]
    refine ptOf_good ?_ (by omega)
    rw [decodeL_N]; unfold decodeN
    rw [if_neg (by omega), if_neg (by omega), if_neg (by omega), if_pos (by omega), if_pos (by omega)]
    refine Prod.ext ?_ rfl
    show _ % 8 * 262144 + _ % 64 * 4096 + _ % 64 * 64 + _ % 64 = _
    omega
  · have k : ¬ (65536 ≤ c ∧ (0 ≤ (c : Int) ∧ (c : Int) ≤ 1114111 ∧ ((c : Int) < 55296 ∨ 57343 < (c : Int)))) := fun h => k0 ⟨h.1, chB_iff.2 h.2⟩
    rw [if_neg k0]
    refine ptOf_bad ?_
    rw [decodeL_N]; unfold decodeN
    rw [if_neg (by omega), if_neg (by omega), if_neg (by omega), if_pos (by omega), if_neg (by omega)]
theorem pt0 (l : List UInt8) (h : 128 ≤ (l.getD 0 0).toNat) (h2 : (l.getD 0 0).toNat < 194 ∨ 224 ≤ (l.getD 0 0).toNat ∨ tailB l 1 = false) (h3 : (l.getD 0 0).toNat < 224 ∨ 240 ≤ (l.getD 0 0).toNat ∨ tailB l 1 = false ∨ tailB l 2 = false)
    (h4 : (l.getD 0 0).toNat < 240 ∨ 245 ≤ (l.getD 0 0).toNat ∨ tailB l 1 = false ∨ tailB l 2 = false ∨ tailB l 3 = false) : ptOf l = (0, 0) := by
  have k0 := (l.getD 0 0).toNat_lt
  have f : ∀ k, tailB l k = false → ¬ (k < l.length ∧ 128 ≤ (l.getD k 0).toNat ∧ (l.getD k 0).toNat < 192) := fun k hk hp => by
    rw [(tailB_iff l k).2 hp] at hk; cases hk
  have f1 := f 1
  have f2 := f 2
  have f3 := f 3
  refine ptOf_bad ?_
  rw [decodeL_N]; unfold decodeN
  rw [if_neg (by omega)]
  by_cases c2 : (l.getD 0 0).toNat / 32 = 6 ∧ (1 < l.length ∧ (l.getD 1 0).toNat / 64 = 2)
  · rw [if_pos c2, if_neg]
    rcases h2 with h | h | h
    · omega
    · omega
    · have := f1 h; omega
  · rw [if_neg c2]
    by_cases c3 : (l.getD 0 0).toNat / 16 = 14 ∧ (1 < l.length ∧ (l.getD 1 0).toNat / 64 = 2) ∧ (2 < l.length ∧ (l.getD 2 0).toNat / 64 = 2)
    · exfalso
      rcases h3 with h | h | h | h
      · omega
      · omega
      · have := f1 h; omega
      · have := f2 h; omega
    · rw [if_neg c3]
      by_cases c4 : (l.getD 0 0).toNat / 8 = 30 ∧ (1 < l.length ∧ (l.getD 1 0).toNat / 64 = 2) ∧ (2 < l.length ∧ (l.getD 2 0).toNat / 64 = 2) ∧ (3 < l.length ∧ (l.getD 3 0).toNat / 64 = 2)
      · rw [if_pos c4, if_neg]
        rcases h4 with h | h | h | h | h
        · omega
        · omega
        · have := f1 h; omega
        · have := f2 h; omega
        · have := f3 h; omega
      · rw [if_neg c4]
end Go.Proofs.YtmlmnbcnfalaaaaDoor
namespace Go.Proofs.YtmlmnbcnfalaaaaDoor
open Go.RowKit Go.Lib
set_option maxRecDepth 100000

def PtPost (l : List UInt8) (w : World) (e : Ending) (w' : World) : Prop := e = .returned (.tuple #[.int .i64 ((ptOf l).1 : Nat), .int .i64 ((ptOf l).2 : Nat)]) ∧ ∃ q, w' = w.drewN q
end Go.Proofs.YtmlmnbcnfalaaaaDoor
