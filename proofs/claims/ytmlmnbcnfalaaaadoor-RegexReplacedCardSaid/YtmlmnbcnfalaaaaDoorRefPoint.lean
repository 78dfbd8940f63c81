/-
  Contract of the reference's point. Conditions: the string is not empty, of at most 10^12 bytes.
-/
import Derived.Test.YtmlmnbcnfalaaaaDoorRefPtA
import Derived.Test.YtmlmnbcnfalaaaaDoorRefPtB
import Derived.Test.YtmlmnbcnfalaaaaDoorRefPtC
import Derived.Test.YtmlmnbcnfalaaaaDoorRefPtD
import Derived.Test.YtmlmnbcnfalaaaaDoorRefPtE
namespace Go.Proofs.YtmlmnbcnfalaaaaDoor
open Go.RowKit Go.Lib
set_option maxRecDepth 100000

theorem point_any (s : ByteArray) (w : World) (hs : s.size ≤ 1000000000000) (h0 : 0 < s.size) : Calls Tryd.prog 40 #[.string s] w (PtPost s.data.toList w) := by
 have lt := (s.data.toList.getD 0 0).toNat_lt
 by_cases a1 : (s.data.toList.getD 0 0).toNat < 128
 ·exact point1 s w hs h0 a1
 by_cases a2 : (s.data.toList.getD 0 0).toNat < 194
 ·exact pointA s w hs h0 (by omega) a2
 by_cases a3 : (s.data.toList.getD 0 0).toNat < 224
 ·cases t1 : tailB s.data.toList 1
  ·exact pointC s w hs h0 (by omega) a3 t1
  ·exact point2 s w hs h0 (by omega) a3 t1
 by_cases a4 : (s.data.toList.getD 0 0).toNat < 240
 ·cases t1 : tailB s.data.toList 1
  ·exact pointD s w hs h0 (by omega) a4 t1
  ·cases t2 : tailB s.data.toList 2
   ·exact pointE s w hs h0 (by omega) a4 t1 t2
   ·obtain ⟨_, q1, _⟩ := (tailB_iff _ _).1 t1
    obtain ⟨_, q2, _⟩ := (tailB_iff _ _).1 t2
    obtain ⟨c, hc'⟩ := Int.eq_ofNat_of_zero_le (show 0 ≤ ((((s.data.toList.getD 0 0).toNat : Int) - 224) * 64 + ((s.data.toList.getD 1 0).toNat : Int) - 128) * 64 + ((s.data.toList.getD 2 0).toNat : Int) - 128 by omega)
    have hc := hc'.symm
    by_cases k : c < 2048
    ·exact point3low s w hs h0 (by omega) a4 t1 t2 c hc k
    ·cases hb : chB c
     ·exact point3sur s w hs h0 (by omega) a4 t1 t2 c hc ⟨by omega, hb⟩
     ·exact point3good s w hs h0 (by omega) a4 t1 t2 c hc ⟨by omega, hb⟩
 by_cases a5 : (s.data.toList.getD 0 0).toNat < 245
 ·cases t1 : tailB s.data.toList 1
  ·exact pointF s w hs h0 (by omega) a5 t1
  ·cases t2 : tailB s.data.toList 2
   ·exact pointG s w hs h0 (by omega) a5 t1 t2
   ·cases t3 : tailB s.data.toList 3
    ·exact pointH s w hs h0 (by omega) a5 t1 t2 t3
    ·obtain ⟨_, q1, _⟩ := (tailB_iff _ _).1 t1
     obtain ⟨_, q2, _⟩ := (tailB_iff _ _).1 t2
     obtain ⟨_, q3, _⟩ := (tailB_iff _ _).1 t3
     obtain ⟨c, hc'⟩ := Int.eq_ofNat_of_zero_le (show 0 ≤ (((((s.data.toList.getD 0 0).toNat : Int) - 240) * 64 + ((s.data.toList.getD 1 0).toNat : Int) - 128) * 64 + ((s.data.toList.getD 2 0).toNat : Int) - 128) * 64 + ((s.data.toList.getD 3 0).toNat : Int) - 128 by omega)
     have hc := hc'.symm
     by_cases k : c < 65536
     ·exact point4low s w hs h0 (by omega) a5 t1 t2 t3 c hc k
     ·cases hb : chB c
      ·exact point4sur s w hs h0 (by omega) a5 t1 t2 t3 c hc ⟨by omega, hb⟩
      ·exact point4good s w hs h0 (by omega) a5 t1 t2 t3 c hc ⟨by omega, hb⟩
 ·exact pointB s w hs h0 (by omega) (by omega)
end Go.Proofs.YtmlmnbcnfalaaaaDoor
