/-
 Candidates that match by subsequence. Conditions: none.
 The reference: candidates that match by subsequence. Conditions: none.
-/
import Derived.Test.YtjcmdifpkafdkaaDoorCvd
import Derived.Test.YtjcmdifpkafdkaaDoorC5
import Derived.Test.YtjcmdifpkafdkaaDoorC4
namespace Go.Proofs.YtjcmdifpkafdkaaDoor
open Go.Lib
set_option maxRecDepth 100000
def findF (fold : Bool) (c : List Int) (r : Int) (at_ : Nat) : Nat := at_ + ((c.drop at_).takeWhile fun x => !(foldC fold x == foldC fold r)).length
def subG (fold : Bool) (c : List Int) : List Int → Nat → Option Nat
 | [], e => some e
 | r :: s, e => if findF fold c r e = c.length then none else subG fold c s (findF fold c r e + 1)
def subC (fold : Bool) (c s : List Int) : Option (Int × Int) := if s = [] then some (0, 0) else (subG fold c s 0).map fun e => ((e : Int) - (findF fold c (s.getD 0 0) 0 : Int) - (s.length : Int), (findF fold c (s.getD 0 0) 0 : Int))
def oneF (fold : Bool) (s : List UInt8) (c : List UInt8) : Option Flx := (subC fold (runes c) (runes s)).map fun p => (c, p.1, p.2, ((runes c).length : Int))
def flexM (fold : Bool) (l : List (List UInt8)) (s : List UInt8) : List Flx := (distM l).filterMap (oneF fold s)
def flexC (fold : Bool) (l : List (List UInt8)) (s : List UInt8) : List (List UInt8) := if validD s = true then (sortL ltF (flexM fold l s)).map (·.1) else []
theorem find_go {fold : Bool} {c : List Int} {r : Int} {e : Nat} (h : e < c.length) (k : (foldC fold (c.getD e 0) == foldC fold r) = false) : findF fold c r e = findF fold c r (e + 1) := by
 unfold findF
 rw [dropD (d := 0) h, List.takeWhile_cons_of_pos (by rw [k]; rfl), List.length_cons]
 omega
theorem find_stop {fold : Bool} {c : List Int} {r : Int} {e : Nat} (h : e < c.length) (k : (foldC fold (c.getD e 0) == foldC fold r) = true) : findF fold c r e = e := by
 unfold findF
 rw [dropD (d := 0) h, List.takeWhile_cons_of_neg (by rw [k]; exact Bool.noConfusion)]
 rfl
theorem find_end {fold : Bool} {c : List Int} {r : Int} {e : Nat} (h : c.length ≤ e) : findF fold c r e = e := by
 unfold findF
 rw [List.drop_eq_nil_of_le h]
 rfl
theorem sub_no {fold : Bool} {c s : List Int} {i e : Nat} (h : i < s.length) (k : findF fold c (s.getD i 0) e = c.length) : subG fold c (s.drop i) e = none := by
 rw [dropD (d := 0) h]
 unfold subG
 rw [if_pos k]
theorem sub_go {fold : Bool} {c s : List Int} {i e q : Nat} (h : i < s.length) (k : findF fold c (s.getD i 0) e = q) (n : q ≠ c.length) : subG fold c (s.drop i) e = subG fold c (s.drop (i + 1)) (q + 1) := by
 rw [dropD (d := 0) h]
 conv => lhs; unfold subG
 rw [k, if_neg n]
section
variable {G : Nat} {A : Abs} {σ : Mem} {F : Nat → Option Blk2} {L : List Ent} {fold : Bool} {c s : List Int} {v1 v2 : Value}
set_option maxHeartbeats 8000000 in
theorem sub_wc (h1 : SlK F 1 v1 c.length (c.map runeV)) (h2 : SlF F 1 v2 s.length (s.map runeV)) (hl : c.length ≤ 1000000) (hls : s.length ≤ 1000000) (hcb : ∀ x ∈ c, 0 ≤ x ∧ x ≤ 1114111) (hsb : ∀ x ∈ s, 0 ≤ x ∧ x ≤ 1114111) (H : Lies G A F σ L) : WC G Tryd.prog 69 #[cmpV fold, v1, v2] σ fun v σ' => v = .tuple #[.int .i64 ((subC fold c s).getD (0, 0)).1, .int .i64 ((subC fold c s).getD (0, 0)).2, .bool (subC fold c s).isSome] ∧ Lies G A F σ' L := by
 cases fold with
 | true =>
  refine WC.enter (fn := Tryd.f69) Tryd.func69 rfl ?_
  refine W.rg [(0, .agg #[.func (.func 84) #[] #[]]), (1, v1), (2, v2)] fun TA => ?_
  refine W.seq (W.region ?_)
  refine RW.mk H (.row ⟨[.func (.func 84) #[] #[]], 47, false⟩) ?_
  clear H; intro _ b1 _ H
  iterate 3 refine RW.v ?_
  refine RW.nil ?_
  refine W.rg [(1, v1), (2, v2), (3, .pointer (some ⟨b1, 0, none⟩)), (7, .int .i64 0)] fun TA => ?_
  refine W.seq (W.region ?_)
  iterate 2 refine RW.v ?_
  refine RW.nil ?_
  refine W.rg [(1, v1), (2, v2), (3, .pointer (some ⟨b1, 0, none⟩)), (7, .int .i64 0), (9, .int .i64 0), (10, .int .i64 (-1))] fun TA => ?_
  refine W.seq ?_
  refine W.seq (W.region ?_)
  refine RW.v ?_
  refine RW.len (by kernel_rfl) (by kernel_rfl) rfl rfl rfl rfl (h2.len (e := 21) (by kernel_rfl)) (by kernel_rfl) ?_
  refine RW.v ?_
  refine RW.nil ?_
  refine W.rg [(1, v1), (2, v2), (3, .pointer (some ⟨b1, 0, none⟩)), (7, .int .i64 0), (9, .int .i64 0), (10, .int .i64 (-1)), (13, v2), (14, .int .i64 (s.length : Int)), (15, .int .i64 0)] fun TA => ?_
  refine W.block ?_
  refine W.loop (fun mm ta σ => ∃ (i : Nat) (ca : Nat) (q : Int) (lz : Int), (mm + i = s.length) ∧ (ca ≤ c.length) ∧ ((i = 0 ∧ q = 0 ∧ ca = 0) ∨ (0 < i ∧ 0 < ca ∧ q = (findF true c (s.getD 0 0) 0 : Int) ∧ 0 ≤ q ∧ q ≤ c.length)) ∧ (subG true c s 0 = subG true c (s.drop i) ca) ∧ (lz = (ca : Int) - 1) ∧ Lies G A F σ (.at_ b1 (.row ⟨[.func (.func 84) #[] #[]], 47, false⟩) :: (L)) ∧ ta 1 = v1 ∧ ta 2 = v2 ∧ ta 3 = .pointer (some ⟨b1, 0, none⟩) ∧ ta 7 = .int .i64 q ∧ ta 9 = .int .i64 ((ca : Nat) : Int) ∧ ta 10 = .int .i64 lz ∧ ta 13 = v2 ∧ ta 14 = .int .i64 (s.length : Int) ∧ ta 15 = .int .i64 ((i : Nat) : Int)) s.length ?_ ?_
  ·exact ⟨0, 0, 0, (-1), (by omega), (Nat.zero_le _), (.inl ⟨rfl, rfl, rfl⟩), rfl, rfl, H, rfl, rfl, rfl, rfl, rfl, rfl, rfl, rfl, rfl⟩
  clear H
  rintro mm ta _ ⟨i, ca, q, lz, hm, hat, hq, hT, hlz, H, e1, e2, e3, e7, e9, e10, e13, e14, e15⟩
  refine W.rst [(1, v1), (2, v2), (3, .pointer (some ⟨b1, 0, none⟩)), (7, .int .i64 q), (9, .int .i64 ((ca : Nat) : Int)), (10, .int .i64 lz), (13, v2), (14, .int .i64 (s.length : Int)), (15, .int .i64 ((i : Nat) : Int))] ⟨e1, e2, e3, e7, e9, e10, e13, e14, e15, trivial⟩ fun TA => ?_
  clear e1 e2 e3 e7 e9 e10 e13 e14 e15
  refine W.seq (W.region ?_)
  refine RW.v ?_
  refine RW.nil ?_
  refine W.rg [(1, v1), (2, v2), (3, .pointer (some ⟨b1, 0, none⟩)), (7, .int .i64 q), (9, .int .i64 ((ca : Nat) : Int)), (10, .int .i64 lz), (13, v2), (14, .int .i64 (s.length : Int)), (15, .int .i64 ((i : Nat) : Int)), (16, .bool (decide (((i : Nat) : Int) < (s.length : Int))))] fun TA => ?_
  refine W.seq ?_
  refine W.cond rfl (fun hc2 => ?_) (fun hc2 => ?_)
  ·have hc2b := hc2
   have hc2 := of_decide_eq_true hc2
   have his : i < s.length := by omega
   refine W.skip ?_
   refine W.seq ?_
   refine W.block ?_
   refine W.seq (W.region ?_)
   refine RW.v ?_
   refine RW.idxF h2 (by kernel_rfl) (by kernel_rfl) rfl Tryd.underlying50 (by kernel_rfl) rfl rfl ⟨by omega, by omega⟩ (by kernel_rfl) ?_
   intro b3 q4 r5 hF6 hE7
   rw [runs_at (l := s) (j := i) (i := ((i : Nat) : Int)) (by omega) (by omega)] at hE7
   refine RW.loads 1 (by kernel_rfl) (by kernel_rfl) rfl rfl (H.old _ _ hF6) hE7 rfl (by kernel_rfl) ?_
   iterate 2 refine RW.v ?_
   refine RW.nil ?_
   refine W.rg [(1, v1), (2, v2), (3, .pointer (some ⟨b1, 0, none⟩)), (7, .int .i64 q), (9, .int .i64 ((ca : Nat) : Int)), (11, .int .i64 ((i : Nat) : Int)), (12, .int .i32 (s.getD i 0)), (13, v2), (14, .int .i64 (s.length : Int)), (15, .int .i64 ((i : Nat) : Int))] fun TA => ?_
   refine W.seq ?_
   refine W.block ?_
   refine W.loop (fun mm2 ta σ => ∃ (e : Nat), (c.length ≤ mm2 + e) ∧ (ca ≤ e ∧ e ≤ c.length) ∧ (findF true c (s.getD i 0) ca = findF true c (s.getD i 0) e) ∧ Lies G A F σ (.at_ b1 (.row ⟨[.func (.func 84) #[] #[]], 47, false⟩) :: (L)) ∧ ta 1 = v1 ∧ ta 2 = v2 ∧ ta 3 = .pointer (some ⟨b1, 0, none⟩) ∧ ta 7 = .int .i64 q ∧ ta 9 = .int .i64 ((e : Nat) : Int) ∧ ta 11 = .int .i64 ((i : Nat) : Int) ∧ ta 12 = .int .i32 (s.getD i 0) ∧ ta 13 = v2 ∧ ta 14 = .int .i64 (s.length : Int) ∧ ta 15 = .int .i64 ((i : Nat) : Int)) c.length ?_ ?_
   ·exact ⟨ca, (by omega), (by omega), rfl, H, rfl, rfl, rfl, rfl, rfl, rfl, rfl, rfl, rfl, rfl⟩
   clear H
   rintro mm2 ta _ ⟨e, hm2, hec0, hE0, H, e1, e2, e3, e7, e9, e11, e12, e13, e14, e15⟩
   refine W.rst [(1, v1), (2, v2), (3, .pointer (some ⟨b1, 0, none⟩)), (7, .int .i64 q), (9, .int .i64 ((e : Nat) : Int)), (11, .int .i64 ((i : Nat) : Int)), (12, .int .i32 (s.getD i 0)), (13, v2), (14, .int .i64 (s.length : Int)), (15, .int .i64 ((i : Nat) : Int))] ⟨e1, e2, e3, e7, e9, e11, e12, e13, e14, e15, trivial⟩ fun TA => ?_
   clear e1 e2 e3 e7 e9 e11 e12 e13 e14 e15
   refine W.seq ?_
   refine W.seq ?_
   refine W.drawn (by kernel_rfl) (by kernel_rfl) H.gn ?_
   have H8 := H
   iterate 2 refine RW.v ?_
   refine RW.len (by kernel_rfl) (by kernel_rfl) rfl rfl rfl rfl (h1.slf.len (e := 21) (by kernel_rfl)) (by kernel_rfl) ?_
   iterate 2 refine RW.v ?_
   refine RW.both _ _ rfl rfl rfl (fun hc9 => ?_) (fun hc9 => ?_)
   ·have hc9b := hc9
    have hc9 := of_decide_eq_true hc9
    have hec : e < c.length := by omega
    refine RW.ldL H8 0 1 (by rfl) (by kernel_rfl) rfl rfl rfl rfl rfl (by kernel_rfl) ?_
    iterate 2 refine RW.w ?_
    refine RW.idxF h1.slf (by rfl) (by kernel_rfl) rfl Tryd.underlying50 (by kernel_rfl) rfl rfl ⟨by omega, by omega⟩ (by kernel_rfl) ?_
    intro b10 q11 r12 hF13 hE14
    rw [runs_at (l := c) (j := e) (i := ((e : Nat) : Int)) (by omega) (by omega)] at hE14
    refine RW.loads 1 (by rfl) (by kernel_rfl) rfl rfl (H8.old _ _ hF13) hE14 rfl (by kernel_rfl) ?_
    refine RW.w ?_
    refine RW.cl (hw := by rfl) ?_
    refine ((same_wc (fold := true) (a := (c.getD e 0)) (b := (s.getD i 0)) (hcb _ (getD_mem (by omega))) (hsb _ (getD_mem (by omega))) H8).mono ?_)
    rintro _ _ ⟨rfl, H15⟩
    refine RW.w ?_
    refine RW.v ?_
    refine RW.nil ?_
    refine ⟨⟨by kernel_rfl, ⟨trivial, trivial, trivial, trivial, trivial, dyn_row (H8.get 0 rfl) (H15.get 0 rfl) ⟨nB, nB, nB, nB, nB, nB, nB, nB, nB, nB, nB, fun _ => H8.get 0 rfl, nB, nB, trivial⟩, trivial, trivial, trivial, dyn_row (H8.old _ _ hF13) (H15.old _ _ hF13) ⟨nB, nB, nB, nB, nB, nB, nB, nB, nB, nB, nB, fun _ => H8.old _ _ hF13, nB, nB, trivial⟩, trivial, trivial, trivial, trivial, trivial⟩⟩, ?_⟩
    replace H := H15
    clear H8 H15
    refine W.rg [(1, v1), (2, v2), (3, .pointer (some ⟨b1, 0, none⟩)), (7, .int .i64 q), (9, .int .i64 ((e : Nat) : Int)), (11, .int .i64 ((i : Nat) : Int)), (12, .int .i32 (s.getD i 0)), (13, v2), (14, .int .i64 (s.length : Int)), (15, .int .i64 ((i : Nat) : Int)), (33, .bool (!(foldC true (c.getD e 0) == foldC true (s.getD i 0))))] fun TA => ?_
    refine W.cond rfl (fun hc16 => ?_) (fun hc16 => ?_)
    ·have hc16b := hc16
     have hc16e : (foldC true (c.getD e 0) == foldC true (s.getD i 0)) = false := by simpa using hc16b
     refine W.skip ?_
     refine W.block ?_
     refine W.region ?_
     refine RW.v ?_
     refine RW.valE (v' := .int .i64 (((e : Nat) : Int) + 1)) (by kernel_rfl) (by kernel_rfl) rfl (congrArg (Value.int .i64) (wrap_in (by omega) (by omega))) (by kernel_rfl) ?_
     refine RW.v ?_
     refine RW.nil ?_
     refine bQn ?_
     exact ⟨rfl, mm2 - 1, by omega, e + 1, (by omega), (by omega), (by rw [hE0, find_go hec hc16e]), H, rfl, rfl, rfl, rfl, rfl, rfl, rfl, rfl, rfl, rfl⟩
    ·have hc16b := hc16
     have hc16e : (foldC true (c.getD e 0) == foldC true (s.getD i 0)) = true := by simpa using hc16b
     refine W.exit _ ?_
     refine seqQ_exit ?_
     refine rndQ_exit ?_
     have hE : findF true c (s.getD i 0) ca = e := by rw [hE0]; exact find_stop hec hc16e
     refine blkQ_here ?_
     refine W.seq ?_
     refine W.seq (W.region ?_)
     iterate 2 refine RW.v ?_
     refine RW.len (by kernel_rfl) (by kernel_rfl) rfl rfl rfl rfl (h1.slf.len (e := 21) (by kernel_rfl)) (by kernel_rfl) ?_
     refine RW.v ?_
     refine RW.nil ?_
     refine W.rg [(1, v1), (2, v2), (3, .pointer (some ⟨b1, 0, none⟩)), (7, .int .i64 q), (9, .int .i64 ((e : Nat) : Int)), (11, .int .i64 ((i : Nat) : Int)), (13, v2), (14, .int .i64 (s.length : Int)), (15, .int .i64 ((i : Nat) : Int)), (39, .bool (((e : Nat) : Int) == (c.length : Int)))] fun TA => ?_
     refine W.cond rfl (fun hc17 => ?_) (fun hc17 => ?_)
     ·have hc17b := hc17
      have hc17 := eq_of_beq hc17
      refine W.seq (W.region ?_)
      iterate 3 refine RW.v ?_
      refine RW.nil ?_
      replace H := (H.del 0)
      dsimp only [setL, delL] at H
      refine W.ret ?_
      refine seqQ_ret ?_
      refine blkQ_ret ?_
      refine seqQ_ret ?_
      refine rndQ_ret ?_
      refine blkQ_ret ?_
      refine seqQ_ret ?_
      refine endG (by rfl) (by exact resL_tmp (by exact resL_tmp (by exact resL_tmp rfl))) ?_
      have hC : subC true c s = none := by unfold subC; rw [if_neg (fun e => by rw [e] at his; exact absurd his (Nat.not_lt_zero _)), hT, sub_no his (by rw [hE]; omega)]; rfl
      rw [hC]
      exact ⟨rfl, H⟩
     ·have hc17b := hc17
      have hc17 := ne_of_beq_false hc17
      refine W.skip ?_
      refine W.seq ?_
      refine W.seq (W.region ?_)
      iterate 2 refine RW.v ?_
      refine RW.nil ?_
      refine W.rg [(1, v1), (2, v2), (3, .pointer (some ⟨b1, 0, none⟩)), (7, .int .i64 q), (9, .int .i64 ((e : Nat) : Int)), (13, v2), (14, .int .i64 (s.length : Int)), (15, .int .i64 ((i : Nat) : Int)), (41, .bool (((i : Nat) : Int) == 0))] fun TA => ?_
      refine W.cond rfl (fun hc18 => ?_) (fun hc18 => ?_)
      ·have hc18b := hc18
       have hc18 := eq_of_beq hc18
       refine W.region ?_
       iterate 2 refine RW.v ?_
       refine RW.nil ?_
       refine W.rg [(1, v1), (2, v2), (3, .pointer (some ⟨b1, 0, none⟩)), (7, .int .i64 ((e : Nat) : Int)), (9, .int .i64 ((e : Nat) : Int)), (13, v2), (14, .int .i64 (s.length : Int)), (15, .int .i64 ((i : Nat) : Int))] fun TA => ?_
       refine W.seq (W.region ?_)
       iterate 2 refine RW.v ?_
       refine RW.nil ?_
       refine W.rg [(1, v1), (2, v2), (3, .pointer (some ⟨b1, 0, none⟩)), (7, .int .i64 ((e : Nat) : Int)), (9, .int .i64 ((e : Nat) : Int)), (10, .int .i64 ((e : Nat) : Int)), (13, v2), (14, .int .i64 (s.length : Int)), (15, .int .i64 ((i : Nat) : Int))] fun TA => ?_
       refine W.region ?_
       refine RW.v ?_
       refine RW.valE (v' := .int .i64 (((e : Nat) : Int) + 1)) (by kernel_rfl) (by kernel_rfl) rfl (congrArg (Value.int .i64) (wrap_in (by omega) (by omega))) (by kernel_rfl) ?_
       refine RW.v ?_
       refine RW.nil ?_
       refine bQn ?_
       refine W.rg [(1, v1), (2, v2), (3, .pointer (some ⟨b1, 0, none⟩)), (7, .int .i64 ((e : Nat) : Int)), (9, .int .i64 (((e : Nat) : Int) + 1)), (10, .int .i64 ((e : Nat) : Int)), (13, v2), (14, .int .i64 (s.length : Int)), (15, .int .i64 ((i : Nat) : Int))] fun TA => ?_
       refine W.region ?_
       refine RW.valE (v' := .int .i64 (((i : Nat) : Int) + 1)) (by kernel_rfl) (by kernel_rfl) rfl (congrArg (Value.int .i64) (wrap_in (by omega) (by omega))) (by kernel_rfl) ?_
       refine RW.v ?_
       refine RW.nil ?_
       exact ⟨rfl, mm - 1, by omega, i + 1, (e + 1), ((e : Nat) : Int), (e : Int), (by omega), (by omega), (.inr ⟨by omega, by omega, by have hi0 : i = 0 := (by omega); have hc0 : ca = 0 := (by omega); rw [hi0, hc0] at hE; rw [hE], by omega, by omega⟩), (by rw [hT, sub_go his hE (by omega)]), (by omega), H, rfl, rfl, rfl, rfl, rfl, rfl, rfl, rfl, rfl⟩
      ·have hc18b := hc18
       have hc18 := ne_of_beq_false hc18
       refine W.skip ?_
       refine W.seq (W.region ?_)
       iterate 2 refine RW.v ?_
       refine RW.nil ?_
       refine W.rg [(1, v1), (2, v2), (3, .pointer (some ⟨b1, 0, none⟩)), (7, .int .i64 q), (9, .int .i64 ((e : Nat) : Int)), (10, .int .i64 ((e : Nat) : Int)), (13, v2), (14, .int .i64 (s.length : Int)), (15, .int .i64 ((i : Nat) : Int))] fun TA => ?_
       refine W.region ?_
       refine RW.v ?_
       refine RW.valE (v' := .int .i64 (((e : Nat) : Int) + 1)) (by kernel_rfl) (by kernel_rfl) rfl (congrArg (Value.int .i64) (wrap_in (by omega) (by omega))) (by kernel_rfl) ?_
       refine RW.v ?_
       refine RW.nil ?_
       refine bQn ?_
       refine W.rg [(1, v1), (2, v2), (3, .pointer (some ⟨b1, 0, none⟩)), (7, .int .i64 q), (9, .int .i64 (((e : Nat) : Int) + 1)), (10, .int .i64 ((e : Nat) : Int)), (13, v2), (14, .int .i64 (s.length : Int)), (15, .int .i64 ((i : Nat) : Int))] fun TA => ?_
       refine W.region ?_
       refine RW.valE (v' := .int .i64 (((i : Nat) : Int) + 1)) (by kernel_rfl) (by kernel_rfl) rfl (congrArg (Value.int .i64) (wrap_in (by omega) (by omega))) (by kernel_rfl) ?_
       refine RW.v ?_
       refine RW.nil ?_
       exact ⟨rfl, mm - 1, by omega, i + 1, (e + 1), q, (e : Int), (by omega), (by omega), (.inr ⟨by omega, by omega, by omega, by omega, by omega⟩), (by rw [hT, sub_go his hE (by omega)]), (by omega), H, rfl, rfl, rfl, rfl, rfl, rfl, rfl, rfl, rfl⟩
   ·have hc9b := hc9
    have hc9 := of_decide_eq_false hc9
    iterate 8 refine RW.s ?_
    refine RW.v ?_
    refine RW.nil ?_
    refine ⟨⟨by kernel_rfl, ⟨trivial, trivial, trivial, trivial, trivial, trivial, trivial, trivial, trivial, trivial, trivial, trivial, trivial, trivial, trivial⟩⟩, ?_⟩
    replace H := H8
    clear H8
    refine W.c0 ?_
    refine W.exit _ ?_
    refine seqQ_exit ?_
    refine rndQ_exit ?_
    have hE : findF true c (s.getD i 0) ca = e := by rw [hE0]; exact find_end (by omega)
    refine blkQ_here ?_
    refine W.seq ?_
    refine W.seq (W.region ?_)
    iterate 2 refine RW.v ?_
    refine RW.len (by kernel_rfl) (by kernel_rfl) rfl rfl rfl rfl (h1.slf.len (e := 21) (by kernel_rfl)) (by kernel_rfl) ?_
    refine RW.v ?_
    refine RW.nil ?_
    refine W.rg [(1, v1), (2, v2), (3, .pointer (some ⟨b1, 0, none⟩)), (7, .int .i64 q), (9, .int .i64 ((e : Nat) : Int)), (11, .int .i64 ((i : Nat) : Int)), (13, v2), (14, .int .i64 (s.length : Int)), (15, .int .i64 ((i : Nat) : Int)), (39, .bool (((e : Nat) : Int) == (c.length : Int)))] fun TA => ?_
    refine W.cond rfl (fun hc19 => ?_) (fun hc19 => ?_)
    ·have hc19b := hc19
     have hc19 := eq_of_beq hc19
     refine W.seq (W.region ?_)
     iterate 3 refine RW.v ?_
     refine RW.nil ?_
     replace H := (H.del 0)
     dsimp only [setL, delL] at H
     refine W.ret ?_
     refine seqQ_ret ?_
     refine blkQ_ret ?_
     refine seqQ_ret ?_
     refine rndQ_ret ?_
     refine blkQ_ret ?_
     refine seqQ_ret ?_
     refine endG (by rfl) (by exact resL_tmp (by exact resL_tmp (by exact resL_tmp rfl))) ?_
     have hC : subC true c s = none := by unfold subC; rw [if_neg (fun e => by rw [e] at his; exact absurd his (Nat.not_lt_zero _)), hT, sub_no his (by rw [hE]; omega)]; rfl
     rw [hC]
     exact ⟨rfl, H⟩
    ·have hc19b := hc19
     have hc19 := ne_of_beq_false hc19
     refine W.skip ?_
     refine W.seq ?_
     refine W.seq (W.region ?_)
     iterate 2 refine RW.v ?_
     refine RW.nil ?_
     refine W.rg [(1, v1), (2, v2), (3, .pointer (some ⟨b1, 0, none⟩)), (7, .int .i64 q), (9, .int .i64 ((e : Nat) : Int)), (13, v2), (14, .int .i64 (s.length : Int)), (15, .int .i64 ((i : Nat) : Int)), (41, .bool (((i : Nat) : Int) == 0))] fun TA => ?_
     refine W.cond rfl (fun hc20 => ?_) (fun hc20 => ?_)
     ·have hc20b := hc20
      have hc20 := eq_of_beq hc20
      refine W.region ?_
      iterate 2 refine RW.v ?_
      refine RW.nil ?_
      refine W.rg [(1, v1), (2, v2), (3, .pointer (some ⟨b1, 0, none⟩)), (7, .int .i64 ((e : Nat) : Int)), (9, .int .i64 ((e : Nat) : Int)), (13, v2), (14, .int .i64 (s.length : Int)), (15, .int .i64 ((i : Nat) : Int))] fun TA => ?_
      refine W.seq (W.region ?_)
      iterate 2 refine RW.v ?_
      refine RW.nil ?_
      refine W.rg [(1, v1), (2, v2), (3, .pointer (some ⟨b1, 0, none⟩)), (7, .int .i64 ((e : Nat) : Int)), (9, .int .i64 ((e : Nat) : Int)), (10, .int .i64 ((e : Nat) : Int)), (13, v2), (14, .int .i64 (s.length : Int)), (15, .int .i64 ((i : Nat) : Int))] fun TA => ?_
      refine W.region ?_
      refine RW.v ?_
      refine RW.valE (v' := .int .i64 (((e : Nat) : Int) + 1)) (by kernel_rfl) (by kernel_rfl) rfl (congrArg (Value.int .i64) (wrap_in (by omega) (by omega))) (by kernel_rfl) ?_
      refine RW.v ?_
      refine RW.nil ?_
      refine bQn ?_
      refine W.rg [(1, v1), (2, v2), (3, .pointer (some ⟨b1, 0, none⟩)), (7, .int .i64 ((e : Nat) : Int)), (9, .int .i64 (((e : Nat) : Int) + 1)), (10, .int .i64 ((e : Nat) : Int)), (13, v2), (14, .int .i64 (s.length : Int)), (15, .int .i64 ((i : Nat) : Int))] fun TA => ?_
      refine W.region ?_
      refine RW.valE (v' := .int .i64 (((i : Nat) : Int) + 1)) (by kernel_rfl) (by kernel_rfl) rfl (congrArg (Value.int .i64) (wrap_in (by omega) (by omega))) (by kernel_rfl) ?_
      refine RW.v ?_
      refine RW.nil ?_
      exact ⟨rfl, mm - 1, by omega, i + 1, (e + 1), ((e : Nat) : Int), (e : Int), (by omega), (by omega), (.inr ⟨by omega, by omega, by have hi0 : i = 0 := (by omega); have hc0 : ca = 0 := (by omega); rw [hi0, hc0] at hE; rw [hE], by omega, by omega⟩), (by rw [hT, sub_go his hE (by omega)]), (by omega), H, rfl, rfl, rfl, rfl, rfl, rfl, rfl, rfl, rfl⟩
     ·have hc20b := hc20
      have hc20 := ne_of_beq_false hc20
      refine W.skip ?_
      refine W.seq (W.region ?_)
      iterate 2 refine RW.v ?_
      refine RW.nil ?_
      refine W.rg [(1, v1), (2, v2), (3, .pointer (some ⟨b1, 0, none⟩)), (7, .int .i64 q), (9, .int .i64 ((e : Nat) : Int)), (10, .int .i64 ((e : Nat) : Int)), (13, v2), (14, .int .i64 (s.length : Int)), (15, .int .i64 ((i : Nat) : Int))] fun TA => ?_
      refine W.region ?_
      refine RW.v ?_
      refine RW.valE (v' := .int .i64 (((e : Nat) : Int) + 1)) (by kernel_rfl) (by kernel_rfl) rfl (congrArg (Value.int .i64) (wrap_in (by omega) (by omega))) (by kernel_rfl) ?_
      refine RW.v ?_
      refine RW.nil ?_
      refine bQn ?_
      refine W.rg [(1, v1), (2, v2), (3, .pointer (some ⟨b1, 0, none⟩)), (7, .int .i64 q), (9, .int .i64 (((e : Nat) : Int) + 1)), (10, .int .i64 ((e : Nat) : Int)), (13, v2), (14, .int .i64 (s.length : Int)), (15, .int .i64 ((i : Nat) : Int))] fun TA => ?_
      refine W.region ?_
      refine RW.valE (v' := .int .i64 (((i : Nat) : Int) + 1)) (by kernel_rfl) (by kernel_rfl) rfl (congrArg (Value.int .i64) (wrap_in (by omega) (by omega))) (by kernel_rfl) ?_
      refine RW.v ?_
      refine RW.nil ?_
      exact ⟨rfl, mm - 1, by omega, i + 1, (e + 1), q, (e : Int), (by omega), (by omega), (.inr ⟨by omega, by omega, by omega, by omega, by omega⟩), (by rw [hT, sub_go his hE (by omega)]), (by omega), H, rfl, rfl, rfl, rfl, rfl, rfl, rfl, rfl, rfl⟩
  ·have hc2b := hc2
   have hc2 := of_decide_eq_false hc2
   refine W.exit _ ?_
   refine seqQ_exit ?_
   refine rndQ_exit ?_
   have hS : subG true c s 0 = some ca := by rw [hT, List.drop_eq_nil_of_le (by omega)]; rfl
   refine blkQ_here ?_
   refine W.seq ?_
   refine W.seq (W.region ?_)
   refine RW.v ?_
   refine RW.len (by kernel_rfl) (by kernel_rfl) rfl rfl rfl rfl (h2.len (e := 21) (by kernel_rfl)) (by kernel_rfl) ?_
   refine RW.v ?_
   refine RW.nil ?_
   replace H := (H.del 0)
   dsimp only [setL, delL] at H
   refine W.rg [(2, v2), (7, .int .i64 q), (10, .int .i64 lz), (49, .bool ((s.length : Int) == 0))] fun TA => ?_
   refine W.cond rfl (fun hc21 => ?_) (fun hc21 => ?_)
   ·have hc21b := hc21
    have hc21 := eq_of_beq hc21
    refine W.seq (W.region ?_)
    iterate 3 refine RW.v ?_
    refine RW.nil ?_
    refine W.ret ?_
    refine seqQ_ret ?_
    refine endG (by rfl) (by exact resL_tmp (by exact resL_tmp (by exact resL_tmp rfl))) ?_
    have hC : subC true c s = some (0, 0) := by unfold subC; rw [if_pos (List.eq_nil_of_length_eq_zero (by omega))]
    rw [hC]
    exact ⟨rfl, H⟩
   ·have hc21b := hc21
    have hc21 := ne_of_beq_false hc21
    refine W.skip ?_
    refine W.seq (W.region ?_)
    iterate 2 refine RW.v ?_
    refine RW.valE (v' := .int .i64 (lz - q)) (by kernel_rfl) (by kernel_rfl) rfl (congrArg (Value.int .i64) (wrap_in (by omega) (by omega))) (by kernel_rfl) ?_
    refine RW.valE (v' := .int .i64 ((lz - q) + 1)) (by kernel_rfl) (by kernel_rfl) rfl (congrArg (Value.int .i64) (wrap_in (by omega) (by omega))) (by kernel_rfl) ?_
    refine RW.v ?_
    refine RW.len (by kernel_rfl) (by kernel_rfl) rfl rfl rfl rfl (h2.len (e := 21) (by kernel_rfl)) (by kernel_rfl) ?_
    refine RW.valE (v' := .int .i64 (((lz - q) + 1) - (s.length : Int))) (by kernel_rfl) (by kernel_rfl) rfl (congrArg (Value.int .i64) (wrap_in (by omega) (by omega))) (by kernel_rfl) ?_
    iterate 4 refine RW.v ?_
    refine RW.nil ?_
    refine W.ret ?_
    refine endG (by rfl) (by exact resL_tmp (by exact resL_tmp (by exact resL_tmp rfl))) ?_
    have hC : subC true c s = some (((lz - q) + 1) - (s.length : Int), q) := by unfold subC; rw [if_neg (fun e => hc21 (by rw [e]; rfl)), hS]; show some (_, _) = _; congr 2 <;> omega
    rw [hC]
    exact ⟨rfl, H⟩
 | false =>
  refine WC.enter (fn := Tryd.f69) Tryd.func69 rfl ?_
  refine W.rg [(0, .agg #[.func (.func 86) #[] #[]]), (1, v1), (2, v2)] fun TA => ?_
  refine W.seq (W.region ?_)
  refine RW.mk H (.row ⟨[.func (.func 86) #[] #[]], 47, false⟩) ?_
  clear H; intro _ b1 _ H
  iterate 3 refine RW.v ?_
  refine RW.nil ?_
  refine W.rg [(1, v1), (2, v2), (3, .pointer (some ⟨b1, 0, none⟩)), (7, .int .i64 0)] fun TA => ?_
  refine W.seq (W.region ?_)
  iterate 2 refine RW.v ?_
  refine RW.nil ?_
  refine W.rg [(1, v1), (2, v2), (3, .pointer (some ⟨b1, 0, none⟩)), (7, .int .i64 0), (9, .int .i64 0), (10, .int .i64 (-1))] fun TA => ?_
  refine W.seq ?_
  refine W.seq (W.region ?_)
  refine RW.v ?_
  refine RW.len (by kernel_rfl) (by kernel_rfl) rfl rfl rfl rfl (h2.len (e := 21) (by kernel_rfl)) (by kernel_rfl) ?_
  refine RW.v ?_
  refine RW.nil ?_
  refine W.rg [(1, v1), (2, v2), (3, .pointer (some ⟨b1, 0, none⟩)), (7, .int .i64 0), (9, .int .i64 0), (10, .int .i64 (-1)), (13, v2), (14, .int .i64 (s.length : Int)), (15, .int .i64 0)] fun TA => ?_
  refine W.block ?_
  refine W.loop (fun mm ta σ => ∃ (i : Nat) (ca : Nat) (q : Int) (lz : Int), (mm + i = s.length) ∧ (ca ≤ c.length) ∧ ((i = 0 ∧ q = 0 ∧ ca = 0) ∨ (0 < i ∧ 0 < ca ∧ q = (findF false c (s.getD 0 0) 0 : Int) ∧ 0 ≤ q ∧ q ≤ c.length)) ∧ (subG false c s 0 = subG false c (s.drop i) ca) ∧ (lz = (ca : Int) - 1) ∧ Lies G A F σ (.at_ b1 (.row ⟨[.func (.func 86) #[] #[]], 47, false⟩) :: (L)) ∧ ta 1 = v1 ∧ ta 2 = v2 ∧ ta 3 = .pointer (some ⟨b1, 0, none⟩) ∧ ta 7 = .int .i64 q ∧ ta 9 = .int .i64 ((ca : Nat) : Int) ∧ ta 10 = .int .i64 lz ∧ ta 13 = v2 ∧ ta 14 = .int .i64 (s.length : Int) ∧ ta 15 = .int .i64 ((i : Nat) : Int)) s.length ?_ ?_
  ·exact ⟨0, 0, 0, (-1), (by omega), (Nat.zero_le _), (.inl ⟨rfl, rfl, rfl⟩), rfl, rfl, H, rfl, rfl, rfl, rfl, rfl, rfl, rfl, rfl, rfl⟩
  clear H
  rintro mm ta _ ⟨i, ca, q, lz, hm, hat, hq, hT, hlz, H, e1, e2, e3, e7, e9, e10, e13, e14, e15⟩
  refine W.rst [(1, v1), (2, v2), (3, .pointer (some ⟨b1, 0, none⟩)), (7, .int .i64 q), (9, .int .i64 ((ca : Nat) : Int)), (10, .int .i64 lz), (13, v2), (14, .int .i64 (s.length : Int)), (15, .int .i64 ((i : Nat) : Int))] ⟨e1, e2, e3, e7, e9, e10, e13, e14, e15, trivial⟩ fun TA => ?_
  clear e1 e2 e3 e7 e9 e10 e13 e14 e15
  refine W.seq (W.region ?_)
  refine RW.v ?_
  refine RW.nil ?_
  refine W.rg [(1, v1), (2, v2), (3, .pointer (some ⟨b1, 0, none⟩)), (7, .int .i64 q), (9, .int .i64 ((ca : Nat) : Int)), (10, .int .i64 lz), (13, v2), (14, .int .i64 (s.length : Int)), (15, .int .i64 ((i : Nat) : Int)), (16, .bool (decide (((i : Nat) : Int) < (s.length : Int))))] fun TA => ?_
  refine W.seq ?_
  refine W.cond rfl (fun hc2 => ?_) (fun hc2 => ?_)
  ·have hc2b := hc2
   have hc2 := of_decide_eq_true hc2
   have his : i < s.length := by omega
   refine W.skip ?_
   refine W.seq ?_
   refine W.block ?_
   refine W.seq (W.region ?_)
   refine RW.v ?_
   refine RW.idxF h2 (by kernel_rfl) (by kernel_rfl) rfl Tryd.underlying50 (by kernel_rfl) rfl rfl ⟨by omega, by omega⟩ (by kernel_rfl) ?_
   intro b3 q4 r5 hF6 hE7
   rw [runs_at (l := s) (j := i) (i := ((i : Nat) : Int)) (by omega) (by omega)] at hE7
   refine RW.loads 1 (by kernel_rfl) (by kernel_rfl) rfl rfl (H.old _ _ hF6) hE7 rfl (by kernel_rfl) ?_
   iterate 2 refine RW.v ?_
   refine RW.nil ?_
   refine W.rg [(1, v1), (2, v2), (3, .pointer (some ⟨b1, 0, none⟩)), (7, .int .i64 q), (9, .int .i64 ((ca : Nat) : Int)), (11, .int .i64 ((i : Nat) : Int)), (12, .int .i32 (s.getD i 0)), (13, v2), (14, .int .i64 (s.length : Int)), (15, .int .i64 ((i : Nat) : Int))] fun TA => ?_
   refine W.seq ?_
   refine W.block ?_
   refine W.loop (fun mm2 ta σ => ∃ (e : Nat), (c.length ≤ mm2 + e) ∧ (ca ≤ e ∧ e ≤ c.length) ∧ (findF false c (s.getD i 0) ca = findF false c (s.getD i 0) e) ∧ Lies G A F σ (.at_ b1 (.row ⟨[.func (.func 86) #[] #[]], 47, false⟩) :: (L)) ∧ ta 1 = v1 ∧ ta 2 = v2 ∧ ta 3 = .pointer (some ⟨b1, 0, none⟩) ∧ ta 7 = .int .i64 q ∧ ta 9 = .int .i64 ((e : Nat) : Int) ∧ ta 11 = .int .i64 ((i : Nat) : Int) ∧ ta 12 = .int .i32 (s.getD i 0) ∧ ta 13 = v2 ∧ ta 14 = .int .i64 (s.length : Int) ∧ ta 15 = .int .i64 ((i : Nat) : Int)) c.length ?_ ?_
   ·exact ⟨ca, (by omega), (by omega), rfl, H, rfl, rfl, rfl, rfl, rfl, rfl, rfl, rfl, rfl, rfl⟩
   clear H
   rintro mm2 ta _ ⟨e, hm2, hec0, hE0, H, e1, e2, e3, e7, e9, e11, e12, e13, e14, e15⟩
   refine W.rst [(1, v1), (2, v2), (3, .pointer (some ⟨b1, 0, none⟩)), (7, .int .i64 q), (9, .int .i64 ((e : Nat) : Int)), (11, .int .i64 ((i : Nat) : Int)), (12, .int .i32 (s.getD i 0)), (13, v2), (14, .int .i64 (s.length : Int)), (15, .int .i64 ((i : Nat) : Int))] ⟨e1, e2, e3, e7, e9, e11, e12, e13, e14, e15, trivial⟩ fun TA => ?_
   clear e1 e2 e3 e7 e9 e11 e12 e13 e14 e15
   refine W.seq ?_
   refine W.seq ?_
   refine W.drawn (by kernel_rfl) (by kernel_rfl) H.gn ?_
   have H8 := H
   iterate 2 refine RW.v ?_
   refine RW.len (by kernel_rfl) (by kernel_rfl) rfl rfl rfl rfl (h1.slf.len (e := 21) (by kernel_rfl)) (by kernel_rfl) ?_
   iterate 2 refine RW.v ?_
   refine RW.both _ _ rfl rfl rfl (fun hc9 => ?_) (fun hc9 => ?_)
   ·have hc9b := hc9
    have hc9 := of_decide_eq_true hc9
    have hec : e < c.length := by omega
    refine RW.ldL H8 0 1 (by rfl) (by kernel_rfl) rfl rfl rfl rfl rfl (by kernel_rfl) ?_
    iterate 2 refine RW.w ?_
    refine RW.idxF h1.slf (by rfl) (by kernel_rfl) rfl Tryd.underlying50 (by kernel_rfl) rfl rfl ⟨by omega, by omega⟩ (by kernel_rfl) ?_
    intro b10 q11 r12 hF13 hE14
    rw [runs_at (l := c) (j := e) (i := ((e : Nat) : Int)) (by omega) (by omega)] at hE14
    refine RW.loads 1 (by rfl) (by kernel_rfl) rfl rfl (H8.old _ _ hF13) hE14 rfl (by kernel_rfl) ?_
    refine RW.w ?_
    refine RW.cl (hw := by rfl) ?_
    refine ((same_wc (fold := false) (a := (c.getD e 0)) (b := (s.getD i 0)) (hcb _ (getD_mem (by omega))) (hsb _ (getD_mem (by omega))) H8).mono ?_)
    rintro _ _ ⟨rfl, H15⟩
    refine RW.w ?_
    refine RW.v ?_
    refine RW.nil ?_
    refine ⟨⟨by kernel_rfl, ⟨trivial, trivial, trivial, trivial, trivial, dyn_row (H8.get 0 rfl) (H15.get 0 rfl) ⟨nB, nB, nB, nB, nB, nB, nB, nB, nB, nB, nB, fun _ => H8.get 0 rfl, nB, nB, trivial⟩, trivial, trivial, trivial, dyn_row (H8.old _ _ hF13) (H15.old _ _ hF13) ⟨nB, nB, nB, nB, nB, nB, nB, nB, nB, nB, nB, fun _ => H8.old _ _ hF13, nB, nB, trivial⟩, trivial, trivial, trivial, trivial, trivial⟩⟩, ?_⟩
    replace H := H15
    clear H8 H15
    refine W.rg [(1, v1), (2, v2), (3, .pointer (some ⟨b1, 0, none⟩)), (7, .int .i64 q), (9, .int .i64 ((e : Nat) : Int)), (11, .int .i64 ((i : Nat) : Int)), (12, .int .i32 (s.getD i 0)), (13, v2), (14, .int .i64 (s.length : Int)), (15, .int .i64 ((i : Nat) : Int)), (33, .bool (!(foldC false (c.getD e 0) == foldC false (s.getD i 0))))] fun TA => ?_
    refine W.cond rfl (fun hc16 => ?_) (fun hc16 => ?_)
    ·have hc16b := hc16
     have hc16e : (foldC false (c.getD e 0) == foldC false (s.getD i 0)) = false := by simpa using hc16b
     refine W.skip ?_
     refine W.block ?_
     refine W.region ?_
     refine RW.v ?_
     refine RW.valE (v' := .int .i64 (((e : Nat) : Int) + 1)) (by kernel_rfl) (by kernel_rfl) rfl (congrArg (Value.int .i64) (wrap_in (by omega) (by omega))) (by kernel_rfl) ?_
     refine RW.v ?_
     refine RW.nil ?_
     refine bQn ?_
     exact ⟨rfl, mm2 - 1, by omega, e + 1, (by omega), (by omega), (by rw [hE0, find_go hec hc16e]), H, rfl, rfl, rfl, rfl, rfl, rfl, rfl, rfl, rfl, rfl⟩
    ·have hc16b := hc16
     have hc16e : (foldC false (c.getD e 0) == foldC false (s.getD i 0)) = true := by simpa using hc16b
     refine W.exit _ ?_
     refine seqQ_exit ?_
     refine rndQ_exit ?_
     have hE : findF false c (s.getD i 0) ca = e := by rw [hE0]; exact find_stop hec hc16e
     refine blkQ_here ?_
     refine W.seq ?_
     refine W.seq (W.region ?_)
     iterate 2 refine RW.v ?_
     refine RW.len (by kernel_rfl) (by kernel_rfl) rfl rfl rfl rfl (h1.slf.len (e := 21) (by kernel_rfl)) (by kernel_rfl) ?_
     refine RW.v ?_
     refine RW.nil ?_
     refine W.rg [(1, v1), (2, v2), (3, .pointer (some ⟨b1, 0, none⟩)), (7, .int .i64 q), (9, .int .i64 ((e : Nat) : Int)), (11, .int .i64 ((i : Nat) : Int)), (13, v2), (14, .int .i64 (s.length : Int)), (15, .int .i64 ((i : Nat) : Int)), (39, .bool (((e : Nat) : Int) == (c.length : Int)))] fun TA => ?_
     refine W.cond rfl (fun hc17 => ?_) (fun hc17 => ?_)
     ·have hc17b := hc17
      have hc17 := eq_of_beq hc17
      refine W.seq (W.region ?_)
      iterate 3 refine RW.v ?_
      refine RW.nil ?_
      replace H := (H.del 0)
      dsimp only [setL, delL] at H
      refine W.ret ?_
      refine seqQ_ret ?_
      refine blkQ_ret ?_
      refine seqQ_ret ?_
      refine rndQ_ret ?_
      refine blkQ_ret ?_
      refine seqQ_ret ?_
      refine endG (by rfl) (by exact resL_tmp (by exact resL_tmp (by exact resL_tmp rfl))) ?_
      have hC : subC false c s = none := by unfold subC; rw [if_neg (fun e => by rw [e] at his; exact absurd his (Nat.not_lt_zero _)), hT, sub_no his (by rw [hE]; omega)]; rfl
      rw [hC]
      exact ⟨rfl, H⟩
     ·have hc17b := hc17
      have hc17 := ne_of_beq_false hc17
      refine W.skip ?_
      refine W.seq ?_
      refine W.seq (W.region ?_)
      iterate 2 refine RW.v ?_
      refine RW.nil ?_
      refine W.rg [(1, v1), (2, v2), (3, .pointer (some ⟨b1, 0, none⟩)), (7, .int .i64 q), (9, .int .i64 ((e : Nat) : Int)), (13, v2), (14, .int .i64 (s.length : Int)), (15, .int .i64 ((i : Nat) : Int)), (41, .bool (((i : Nat) : Int) == 0))] fun TA => ?_
      refine W.cond rfl (fun hc18 => ?_) (fun hc18 => ?_)
      ·have hc18b := hc18
       have hc18 := eq_of_beq hc18
       refine W.region ?_
       iterate 2 refine RW.v ?_
       refine RW.nil ?_
       refine W.rg [(1, v1), (2, v2), (3, .pointer (some ⟨b1, 0, none⟩)), (7, .int .i64 ((e : Nat) : Int)), (9, .int .i64 ((e : Nat) : Int)), (13, v2), (14, .int .i64 (s.length : Int)), (15, .int .i64 ((i : Nat) : Int))] fun TA => ?_
       refine W.seq (W.region ?_)
       iterate 2 refine RW.v ?_
       refine RW.nil ?_
       refine W.rg [(1, v1), (2, v2), (3, .pointer (some ⟨b1, 0, none⟩)), (7, .int .i64 ((e : Nat) : Int)), (9, .int .i64 ((e : Nat) : Int)), (10, .int .i64 ((e : Nat) : Int)), (13, v2), (14, .int .i64 (s.length : Int)), (15, .int .i64 ((i : Nat) : Int))] fun TA => ?_
       refine W.region ?_
       refine RW.v ?_
       refine RW.valE (v' := .int .i64 (((e : Nat) : Int) + 1)) (by kernel_rfl) (by kernel_rfl) rfl (congrArg (Value.int .i64) (wrap_in (by omega) (by omega))) (by kernel_rfl) ?_
       refine RW.v ?_
       refine RW.nil ?_
       refine bQn ?_
       refine W.rg [(1, v1), (2, v2), (3, .pointer (some ⟨b1, 0, none⟩)), (7, .int .i64 ((e : Nat) : Int)), (9, .int .i64 (((e : Nat) : Int) + 1)), (10, .int .i64 ((e : Nat) : Int)), (13, v2), (14, .int .i64 (s.length : Int)), (15, .int .i64 ((i : Nat) : Int))] fun TA => ?_
       refine W.region ?_
       refine RW.valE (v' := .int .i64 (((i : Nat) : Int) + 1)) (by kernel_rfl) (by kernel_rfl) rfl (congrArg (Value.int .i64) (wrap_in (by omega) (by omega))) (by kernel_rfl) ?_
       refine RW.v ?_
       refine RW.nil ?_
       exact ⟨rfl, mm - 1, by omega, i + 1, (e + 1), ((e : Nat) : Int), (e : Int), (by omega), (by omega), (.inr ⟨by omega, by omega, by have hi0 : i = 0 := (by omega); have hc0 : ca = 0 := (by omega); rw [hi0, hc0] at hE; rw [hE], by omega, by omega⟩), (by rw [hT, sub_go his hE (by omega)]), (by omega), H, rfl, rfl, rfl, rfl, rfl, rfl, rfl, rfl, rfl⟩
      ·have hc18b := hc18
       have hc18 := ne_of_beq_false hc18
       refine W.skip ?_
       refine W.seq (W.region ?_)
       iterate 2 refine RW.v ?_
       refine RW.nil ?_
       refine W.rg [(1, v1), (2, v2), (3, .pointer (some ⟨b1, 0, none⟩)), (7, .int .i64 q), (9, .int .i64 ((e : Nat) : Int)), (10, .int .i64 ((e : Nat) : Int)), (13, v2), (14, .int .i64 (s.length : Int)), (15, .int .i64 ((i : Nat) : Int))] fun TA => ?_
       refine W.region ?_
       refine RW.v ?_
       refine RW.valE (v' := .int .i64 (((e : Nat) : Int) + 1)) (by kernel_rfl) (by kernel_rfl) rfl (congrArg (Value.int .i64) (wrap_in (by omega) (by omega))) (by kernel_rfl) ?_
       refine RW.v ?_
       refine RW.nil ?_
       refine bQn ?_
       refine W.rg [(1, v1), (2, v2), (3, .pointer (some ⟨b1, 0, none⟩)), (7, .int .i64 q), (9, .int .i64 (((e : Nat) : Int) + 1)), (10, .int .i64 ((e : Nat) : Int)), (13, v2), (14, .int .i64 (s.length : Int)), (15, .int .i64 ((i : Nat) : Int))] fun TA => ?_
       refine W.region ?_
       refine RW.valE (v' := .int .i64 (((i : Nat) : Int) + 1)) (by kernel_rfl) (by kernel_rfl) rfl (congrArg (Value.int .i64) (wrap_in (by omega) (by omega))) (by kernel_rfl) ?_
       refine RW.v ?_
       refine RW.nil ?_
       exact ⟨rfl, mm - 1, by omega, i + 1, (e + 1), q, (e : Int), (by omega), (by omega), (.inr ⟨by omega, by omega, by omega, by omega, by omega⟩), (by rw [hT, sub_go his hE (by omega)]), (by omega), H, rfl, rfl, rfl, rfl, rfl, rfl, rfl, rfl, rfl⟩
   ·have hc9b := hc9
    have hc9 := of_decide_eq_false hc9
    iterate 8 refine RW.s ?_
    refine RW.v ?_
    refine RW.nil ?_
    refine ⟨⟨by kernel_rfl, ⟨trivial, trivial, trivial, trivial, trivial, trivial, trivial, trivial, trivial, trivial, trivial, trivial, trivial, trivial, trivial⟩⟩, ?_⟩
    replace H := H8
    clear H8
    refine W.c0 ?_
    refine W.exit _ ?_
    refine seqQ_exit ?_
    refine rndQ_exit ?_
    have hE : findF false c (s.getD i 0) ca = e := by rw [hE0]; exact find_end (by omega)
    refine blkQ_here ?_
    refine W.seq ?_
    refine W.seq (W.region ?_)
    iterate 2 refine RW.v ?_
    refine RW.len (by kernel_rfl) (by kernel_rfl) rfl rfl rfl rfl (h1.slf.len (e := 21) (by kernel_rfl)) (by kernel_rfl) ?_
    refine RW.v ?_
    refine RW.nil ?_
    refine W.rg [(1, v1), (2, v2), (3, .pointer (some ⟨b1, 0, none⟩)), (7, .int .i64 q), (9, .int .i64 ((e : Nat) : Int)), (11, .int .i64 ((i : Nat) : Int)), (13, v2), (14, .int .i64 (s.length : Int)), (15, .int .i64 ((i : Nat) : Int)), (39, .bool (((e : Nat) : Int) == (c.length : Int)))] fun TA => ?_
    refine W.cond rfl (fun hc19 => ?_) (fun hc19 => ?_)
    ·have hc19b := hc19
     have hc19 := eq_of_beq hc19
     refine W.seq (W.region ?_)
     iterate 3 refine RW.v ?_
     refine RW.nil ?_
     replace H := (H.del 0)
     dsimp only [setL, delL] at H
     refine W.ret ?_
     refine seqQ_ret ?_
     refine blkQ_ret ?_
     refine seqQ_ret ?_
     refine rndQ_ret ?_
     refine blkQ_ret ?_
     refine seqQ_ret ?_
     refine endG (by rfl) (by exact resL_tmp (by exact resL_tmp (by exact resL_tmp rfl))) ?_
     have hC : subC false c s = none := by unfold subC; rw [if_neg (fun e => by rw [e] at his; exact absurd his (Nat.not_lt_zero _)), hT, sub_no his (by rw [hE]; omega)]; rfl
     rw [hC]
     exact ⟨rfl, H⟩
    ·have hc19b := hc19
     have hc19 := ne_of_beq_false hc19
     refine W.skip ?_
     refine W.seq ?_
     refine W.seq (W.region ?_)
     iterate 2 refine RW.v ?_
     refine RW.nil ?_
     refine W.rg [(1, v1), (2, v2), (3, .pointer (some ⟨b1, 0, none⟩)), (7, .int .i64 q), (9, .int .i64 ((e : Nat) : Int)), (13, v2), (14, .int .i64 (s.length : Int)), (15, .int .i64 ((i : Nat) : Int)), (41, .bool (((i : Nat) : Int) == 0))] fun TA => ?_
     refine W.cond rfl (fun hc20 => ?_) (fun hc20 => ?_)
     ·have hc20b := hc20
      have hc20 := eq_of_beq hc20
      refine W.region ?_
      iterate 2 refine RW.v ?_
      refine RW.nil ?_
      refine W.rg [(1, v1), (2, v2), (3, .pointer (some ⟨b1, 0, none⟩)), (7, .int .i64 ((e : Nat) : Int)), (9, .int .i64 ((e : Nat) : Int)), (13, v2), (14, .int .i64 (s.length : Int)), (15, .int .i64 ((i : Nat) : Int))] fun TA => ?_
      refine W.seq (W.region ?_)
      iterate 2 refine RW.v ?_
      refine RW.nil ?_
      refine W.rg [(1, v1), (2, v2), (3, .pointer (some ⟨b1, 0, none⟩)), (7, .int .i64 ((e : Nat) : Int)), (9, .int .i64 ((e : Nat) : Int)), (10, .int .i64 ((e : Nat) : Int)), (13, v2), (14, .int .i64 (s.length : Int)), (15, .int .i64 ((i : Nat) : Int))] fun TA => ?_
      refine W.region ?_
      refine RW.v ?_
      refine RW.valE (v' := .int .i64 (((e : Nat) : Int) + 1)) (by kernel_rfl) (by kernel_rfl) rfl (congrArg (Value.int .i64) (wrap_in (by omega) (by omega))) (by kernel_rfl) ?_
      refine RW.v ?_
      refine RW.nil ?_
      refine bQn ?_
      refine W.rg [(1, v1), (2, v2), (3, .pointer (some ⟨b1, 0, none⟩)), (7, .int .i64 ((e : Nat) : Int)), (9, .int .i64 (((e : Nat) : Int) + 1)), (10, .int .i64 ((e : Nat) : Int)), (13, v2), (14, .int .i64 (s.length : Int)), (15, .int .i64 ((i : Nat) : Int))] fun TA => ?_
      refine W.region ?_
      refine RW.valE (v' := .int .i64 (((i : Nat) : Int) + 1)) (by kernel_rfl) (by kernel_rfl) rfl (congrArg (Value.int .i64) (wrap_in (by omega) (by omega))) (by kernel_rfl) ?_
      refine RW.v ?_
      refine RW.nil ?_
      exact ⟨rfl, mm - 1, by omega, i + 1, (e + 1), ((e : Nat) : Int), (e : Int), (by omega), (by omega), (.inr ⟨by omega, by omega, by have hi0 : i = 0 := (by omega); have hc0 : ca = 0 := (by omega); rw [hi0, hc0] at hE; rw [hE], by omega, by omega⟩), (by rw [hT, sub_go his hE (by omega)]), (by omega), H, rfl, rfl, rfl, rfl, rfl, rfl, rfl, rfl, rfl⟩
     ·have hc20b := hc20
      have hc20 := ne_of_beq_false hc20
      refine W.skip ?_
      refine W.seq (W.region ?_)
      iterate 2 refine RW.v ?_
      refine RW.nil ?_
      refine W.rg [(1, v1), (2, v2), (3, .pointer (some ⟨b1, 0, none⟩)), (7, .int .i64 q), (9, .int .i64 ((e : Nat) : Int)), (10, .int .i64 ((e : Nat) : Int)), (13, v2), (14, .int .i64 (s.length : Int)), (15, .int .i64 ((i : Nat) : Int))] fun TA => ?_
      refine W.region ?_
      refine RW.v ?_
      refine RW.valE (v' := .int .i64 (((e : Nat) : Int) + 1)) (by kernel_rfl) (by kernel_rfl) rfl (congrArg (Value.int .i64) (wrap_in (by omega) (by omega))) (by kernel_rfl) ?_
      refine RW.v ?_
      refine RW.nil ?_
      refine bQn ?_
      refine W.rg [(1, v1), (2, v2), (3, .pointer (some ⟨b1, 0, none⟩)), (7, .int .i64 q), (9, .int .i64 (((e : Nat) : Int) + 1)), (10, .int .i64 ((e : Nat) : Int)), (13, v2), (14, .int .i64 (s.length : Int)), (15, .int .i64 ((i : Nat) : Int))] fun TA => ?_
      refine W.region ?_
      refine RW.valE (v' := .int .i64 (((i : Nat) : Int) + 1)) (by kernel_rfl) (by kernel_rfl) rfl (congrArg (Value.int .i64) (wrap_in (by omega) (by omega))) (by kernel_rfl) ?_
      refine RW.v ?_
      refine RW.nil ?_
      exact ⟨rfl, mm - 1, by omega, i + 1, (e + 1), q, (e : Int), (by omega), (by omega), (.inr ⟨by omega, by omega, by omega, by omega, by omega⟩), (by rw [hT, sub_go his hE (by omega)]), (by omega), H, rfl, rfl, rfl, rfl, rfl, rfl, rfl, rfl, rfl⟩
  ·have hc2b := hc2
   have hc2 := of_decide_eq_false hc2
   refine W.exit _ ?_
   refine seqQ_exit ?_
   refine rndQ_exit ?_
   have hS : subG false c s 0 = some ca := by rw [hT, List.drop_eq_nil_of_le (by omega)]; rfl
   refine blkQ_here ?_
   refine W.seq ?_
   refine W.seq (W.region ?_)
   refine RW.v ?_
   refine RW.len (by kernel_rfl) (by kernel_rfl) rfl rfl rfl rfl (h2.len (e := 21) (by kernel_rfl)) (by kernel_rfl) ?_
   refine RW.v ?_
   refine RW.nil ?_
   replace H := (H.del 0)
   dsimp only [setL, delL] at H
   refine W.rg [(2, v2), (7, .int .i64 q), (10, .int .i64 lz), (49, .bool ((s.length : Int) == 0))] fun TA => ?_
   refine W.cond rfl (fun hc21 => ?_) (fun hc21 => ?_)
   ·have hc21b := hc21
    have hc21 := eq_of_beq hc21
    refine W.seq (W.region ?_)
    iterate 3 refine RW.v ?_
    refine RW.nil ?_
    refine W.ret ?_
    refine seqQ_ret ?_
    refine endG (by rfl) (by exact resL_tmp (by exact resL_tmp (by exact resL_tmp rfl))) ?_
    have hC : subC false c s = some (0, 0) := by unfold subC; rw [if_pos (List.eq_nil_of_length_eq_zero (by omega))]
    rw [hC]
    exact ⟨rfl, H⟩
   ·have hc21b := hc21
    have hc21 := ne_of_beq_false hc21
    refine W.skip ?_
    refine W.seq (W.region ?_)
    iterate 2 refine RW.v ?_
    refine RW.valE (v' := .int .i64 (lz - q)) (by kernel_rfl) (by kernel_rfl) rfl (congrArg (Value.int .i64) (wrap_in (by omega) (by omega))) (by kernel_rfl) ?_
    refine RW.valE (v' := .int .i64 ((lz - q) + 1)) (by kernel_rfl) (by kernel_rfl) rfl (congrArg (Value.int .i64) (wrap_in (by omega) (by omega))) (by kernel_rfl) ?_
    refine RW.v ?_
    refine RW.len (by kernel_rfl) (by kernel_rfl) rfl rfl rfl rfl (h2.len (e := 21) (by kernel_rfl)) (by kernel_rfl) ?_
    refine RW.valE (v' := .int .i64 (((lz - q) + 1) - (s.length : Int))) (by kernel_rfl) (by kernel_rfl) rfl (congrArg (Value.int .i64) (wrap_in (by omega) (by omega))) (by kernel_rfl) ?_
    iterate 4 refine RW.v ?_
    refine RW.nil ?_
    refine W.ret ?_
    refine endG (by rfl) (by exact resL_tmp (by exact resL_tmp (by exact resL_tmp rfl))) ?_
    have hC : subC false c s = some (((lz - q) + 1) - (s.length : Int), q) := by unfold subC; rw [if_neg (fun e => hc21 (by rw [e]; rfl)), hS]; show some (_, _) = _; congr 2 <;> omega
    rw [hC]
    exact ⟨rfl, H⟩
end
end Go.Proofs.YtjcmdifpkafdkaaDoor
namespace Go.Proofs.YtjcmdifpkafdkaaDoor
open Go.Lib
set_option maxRecDepth 100000
section
variable {G : Nat} {A : Abs} {σ : Mem} {F : Nat → Option Blk2} {L : List Ent} {fold : Bool} {c s : List Int} {v1 v2 : Value}
end
end Go.Proofs.YtjcmdifpkafdkaaDoor
