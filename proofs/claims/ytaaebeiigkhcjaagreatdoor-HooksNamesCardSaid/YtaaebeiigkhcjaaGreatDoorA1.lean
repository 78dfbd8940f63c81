/-
  Contracts of (*heap.Heap).add at a pair where no number is free below: full by size, a new object. Conditions: the heap's block lies as said; what the method size gives.
  Contracts of (*heap.Heap).add at a vector where no number is free below: full by size, a new object. Conditions: the heap's block lies as said; what the method size gives.
  Contracts of (*heap.Heap).add at a text where no number is free below: full by size, a new object. Conditions: the heap's block lies as said; what the method size gives.
-/
import Derived.Test.YtaaebeiigkhcjaaGreatDoorAdd
namespace Go.Proofs.YtaaebeiigkhcjaaGreatDoor
open Go.RowKit
set_option maxRecDepth 100000
-- pair
set_option maxHeartbeats 2000000 in
theorem add_new_pair (S : Own) (p b L M U n : Nat) (vo : Value) (os : List Value) (fa : Option Addr) (c : Nat) (w : World) (hS : SizeIs 152 S w b n) (_hL : L ≤ 65536) (hM : M ≠ L) (hM2 : M ≤ 65536) (hU : U + n ≤ 1048576) (hN : os.length ≤ 65536) (hSp : S p ≠ none) (hSr : ∀ g, vo.ownBlock = some g → S g ≠ none ∧ g ≠ p) (hO : w.ownsRow 0 135 1 vo os.length os)
    (hB : Blk w p 122 #[.int .i64 L, .int .i64 M, .int .i64 U, vo, .slice fa 0 c]) :
    Calls Tryz.prog 60 #[.pointer (some ⟨p, 0, none⟩), .iface 93 (.pointer (some ⟨b, 0, none⟩))] w (Added S w p L M U n 2 vo (.slice fa 0 c) os (.iface 93 (.pointer (some ⟨b, 0, none⟩)))) := by
  obtain ⟨i0, hi, hz0, hz1, hz2⟩ := info_parts info_obj
  have HS := Lib.hid hS
  have c0 : w.cell? ⟨p, 0, none⟩ = some (.int .i64 L) := hB.cell 0
  have c1 : w.cell? ⟨p, 1, none⟩ = some (.int .i64 M) := hB.cell 1
  have c2 : w.cell? ⟨p, 2, none⟩ = some (.int .i64 U) := hB.cell 2
  have hlt := hB.lt
  have hm := msize_pair ⟨b, 0, none⟩
  have hm2 := mkind_pair ⟨b, 0, none⟩
  have e1 : ((M : Int) == (L : Int)) = false := beq_eq_false_iff_ne.2 (by omega)
  have A1 : Below w.heap.size w (w.alloc (.cells #[.int .i64 0, .int .i64 0] 27)) := (Below.refl _ _).alloc (Nat.le_refl _) _
  have k0 : (w.alloc (.cells #[.int .i64 0, .int .i64 0] 27)).drew.cell? ⟨p, 0, none⟩ = some (.int .i64 L) := cell_later A1.drew c0
  have k1 : (w.alloc (.cells #[.int .i64 0, .int .i64 0] 27)).drew.cell? ⟨p, 1, none⟩ = some (.int .i64 M) := cell_later A1.drew c1
  have k2 : (w.alloc (.cells #[.int .i64 0, .int .i64 0] 27)).drew.cell? ⟨p, 2, none⟩ = some (.int .i64 U) := cell_later A1.drew c2
  have k4 : Blk (w.alloc (.cells #[.int .i64 0, .int .i64 0] 27)).drew w.heap.size 27 #[.int .i64 0, .int .i64 0] := Blk.new w _ _
  have e2 : decide ((1048576 : Int) < (U : Int) + (n : Int)) = false := decide_eq_false (by omega)
  have hw : IntKind.i64.wrap ((U : Int) + (n : Int)) = (U : Int) + (n : Int) := IntWalk.i64_in _ (by omega)
  have HB := Lib.hid hB
  have HO := Lib.hid hO
  clear hB hO hS hM
  go_enter Tryz.func60, Tryz.ntmps60
  go_wp2
  go_region_held3 (fun w' => w'.cell? ⟨p, 0, none⟩ = some (.int .i64 L) ∧ w'.cell? ⟨p, 1, none⟩ = some (.int .i64 M) ∧ w'.cell? ⟨p, 2, none⟩ = some (.int .i64 U) ∧ Below w.heap.size w w' ∧ Blk w' w.heap.size 27 #[.int .i64 0, .int .i64 0])
    (first | exact ⟨k0, k1, k2, A1.drew, k4⟩ | (go_split_ands; exact ⟨cell_later hb (by assumption), cell_later hb (by assumption), cell_later hb (by assumption), Below.trans (by assumption) (hb.mono (Below.size (by assumption))), Blk.below (by assumption) hb⟩))
    (first | (go_at_call 152; refine (HS.out _ ?_).mono ?_; (go_split_ands; exact Turn.of_below (by assumption)); rintro e w1 ⟨rfl, hb⟩))
  have B1 : Below w.heap.size w w1 := by go_split_ands; assumption
  have R1 : Blk w1 w.heap.size 27 #[.int .i64 0, .int .i64 0] := by go_split_ands; assumption
  clear hb k0 k1 k2 k4 c0 c1 c2 e2 hw
  have D1 := HB.out.below B1
  have O1 := owns_later HO.out B1
  have d1 : w1.cell? ⟨p, 1, none⟩ = some (.int .i64 M) := D1.cell 1
  have d2 : w1.cell? ⟨p, 2, none⟩ = some (.int .i64 U) := D1.cell 2
  have d3 : w1.cell? ⟨p, 3, none⟩ = some vo := D1.cell 3
  have d4 : w1.cell? ⟨p, 4, none⟩ = some (.slice fa 0 c) := D1.cell 4
  have hlt1 := D1.lt
  have HD1 := Lib.hid D1
  have HO1 := Lib.hid O1
  have HR1 := Lib.hid R1
  have hzw := B1.size
  obtain ⟨A, cv, hvo⟩ : ∃ A cv, vo = .slice A os.length cv := by
    rcases O1.2 with ⟨h, h2⟩ | ⟨g, cap, cur, h, _⟩
    · exact ⟨none, 0, by rw [h, h2]⟩
    · exact ⟨_, _, h⟩
  subst hvo
  have HSR := Lib.hid hSr
  clear D1 O1 R1 hSr
  have HV : Hid (Reads (w1.alloc (.cells #[.iface 93 (.pointer (some ⟨b, 0, none⟩))] 135)) (w1.heap.size + 1) 1 (some ⟨w1.heap.size, 0, none⟩) 1 [.iface 93 (.pointer (some ⟨b, 0, none⟩))]) :=
    ⟨rfl, fun _ => ⟨_, rfl, Nat.lt_succ_self _, cell_one_new _ _ _⟩⟩
  go_wp2_with (at_builtin; refine (wpList_append_any _ rfl (.tmp 55) (.tmp 57) _ rfl 0 135 i0 _ 1 16 Tryz.underlying119 hi hz0 hz1 hz2 rfl (by omega) (.slice A os.length cv) os.length os rfl (HO1.out.alloc _) (w1.heap.size + 1) (some ⟨w1.heap.size, 0, none⟩) 1 1 [.iface 93 (.pointer (some ⟨b, 0, none⟩))] rfl HV.out (fun u hu => by simp at hu; subst hu; rfl) (by simp only [maxLen]; omega) (by omega) (Nat.zero_le _) ?_); intro v2 w2 hown2 hgrow2 hat2; refine Hid.out ?_)
  refine Lib.hid ?_
  have D2 := (HD1.out.alloc (.cells #[.iface 93 (.pointer (some ⟨b, 0, none⟩))] 135)).keep (hgrow2.block p (by simp; omega) (fun e => (HSR.out p e.symm).2 rfl))
  have R2 := (HR1.out.alloc (.cells #[.iface 93 (.pointer (some ⟨b, 0, none⟩))] 135)).keep (hgrow2.block w.heap.size (by simp; omega) (fun e => by
    rcases HO.out.2 with ⟨h, _⟩ | ⟨g, cap, cur, h, _, hh, _⟩
    · rw [h] at e; simp [Value.ownBlock] at e
    · rw [h] at e; simp [Value.ownBlock] at e; have := lt_of_block hh; omega))
  have T2 : Turn S w w2 S := ((Turn.of_below B1).alloc _).grown hgrow2 (fun g hg => (HSR.out g hg).1)
  have s1 : w2.cell? ⟨p, 1, none⟩ = some (.int .i64 M) := D2.cell 1
  have s2 : w2.cell? ⟨p, 2, none⟩ = some (.int .i64 U) := D2.cell 2
  have s3 : w2.cell? ⟨p, 3, none⟩ = some (.slice A os.length cv) := D2.cell 3
  have t1 := D2.frozen 1
  have t2 := D2.frozen 2
  have t3 := D2.frozen 3
  have HD2 := Lib.hid D2
  have HR2 := Lib.hid R2
  have HO2 := Lib.hid hown2
  have HG2 := Lib.hid hgrow2
  have HA2 := Lib.hid hat2
  have HT2 := Lib.hid T2
  have hpw : p ≠ w.heap.size := by omega
  clear D2 R2 hown2 hgrow2 hat2 T2 d1 d2 d3 d4 HD1 HO1 HR1 HV
  obtain ⟨v2a, v2n, v2c, hv2⟩ : ∃ a n c, v2 = .slice a n c := by
    rcases HO2.out.2 with ⟨h, _⟩ | ⟨g, cap, cur, h, _⟩
    · exact ⟨_, _, _, h⟩
    · exact ⟨_, _, _, h⟩
  subst hv2
  go_wp2
  obtain ⟨w3, HW3⟩ : ∃ w3, w3 = (w2.setCell ⟨p, 3, none⟩ (.slice v2a v2n v2c)).setCell ⟨p, 1, none⟩ (.int .i64 ((M : Int) + 1)) := ⟨_, rfl⟩
  rw [← HW3]
  have D3 := (HD2.out.set 3 (.slice v2a v2n v2c)).set 1 (.int .i64 ((M : Int) + 1))
  have R3 := (HR2.out.far (p := ⟨p, 3, none⟩) (by simpa using hpw.symm) (.slice v2a v2n v2c)).far (p := ⟨p, 1, none⟩) (by simpa using hpw.symm) (.int .i64 ((M : Int) + 1))
  have T3 := (HT2.out.setCell (p := ⟨p, 3, none⟩) hSp (.slice v2a v2n v2c)).setCell (p := ⟨p, 1, none⟩) hSp (.int .i64 ((M : Int) + 1))
  have O3 : w3.ownsRow 0 135 1 (.slice v2a v2n v2c) (os.length + 1) (os ++ [.iface 93 (.pointer (some ⟨b, 0, none⟩))]) := by
    rw [HW3]
    have hne : ∀ g, (Value.slice v2a v2n v2c).ownBlock = some g → g ≠ p := fun g hg => by
      rcases HA2.out with h | h
      · exact (HSR.out g (h ▸ hg)).2
      · rw [h] at hg; simp at hg; omega
    exact owns_keep HO2.out fun g hg => by rw [Below.heap_setCell _ _ _ _ (hne g hg), Below.heap_setCell _ _ _ _ (hne g hg)]
  have HN : Hid (∀ g, (Value.slice v2a v2n v2c).ownBlock = some g → g ≠ p) := fun g hg => by
    rcases HA2.out with h | h
    · exact (HSR.out g (h ▸ hg)).2
    · rw [h] at hg; simp at hg; omega
  have HN2 : Hid (∀ g, (Value.slice v2a v2n v2c).ownBlock = some g → g ≠ w.heap.size) := fun g hg => by
    rcases HA2.out with h | h
    · have := HO.out.lt g (h ▸ hg); omega
    · rw [h] at hg; simp at hg; omega
  rw [← HW3] at D3 R3 T3
  simp at D3
  have s2 : w3.cell? ⟨p, 2, none⟩ = some (.int .i64 U) := D3.cell 2
  have t2 : w3.frozen? ⟨p, 2, none⟩ = false := D3.frozen 2
  have hlt3 := D3.lt
  clear HW3
  have HS3 := Lib.hid (HS.out w3.drew (T3.drewN 1))
  have HD3 := Lib.hid D3
  have HR3 := Lib.hid R3
  have HT3 := Lib.hid T3
  have HO3 := Lib.hid O3
  clear D3 R3 T3 O3 HS HD2 HR2 HO2 HG2 HT2 HSR s1 s3 t1 t3
  have hw : IntKind.i64.wrap ((U : Int) + (n : Int)) = (U : Int) + (n : Int) := IntWalk.i64_in _ (by omega)
  go_region_with ((go_at_call 152; refine HS3.out.mono ?_; rintro e w4 ⟨rfl, hb4⟩; have s4 : w4.cell? ⟨p, 2, none⟩ = some (.int .i64 U) := cell_later hb4 s2; have t4 : w4.frozen? ⟨p, 2, none⟩ = false := frozen_later hb4 s2 t2))
  all_goals
    have hb4' : Below w3.heap.size w3 w4 := ⟨hb4.os, hb4.tape, hb4.output, hb4.size, hb4.block⟩
    have D4 := (HD3.out.below hb4').set 2 (.int .i64 ((U : Int) + (n : Int)))
    have R4 := (HR3.out.below hb4').far (p := ⟨p, 2, none⟩) (by simpa using hpw.symm) (.int .i64 ((U : Int) + (n : Int)))
    have T4 := (HT3.out.later hb4').setCell (p := ⟨p, 2, none⟩) hSp (.int .i64 ((U : Int) + (n : Int)))
    have O4 : (w4.setCell ⟨p, 2, none⟩ (.int .i64 ((U : Int) + (n : Int)))).ownsRow 0 135 1 (.slice v2a v2n v2c) (os.length + 1) (os ++ [.iface 93 (.pointer (some ⟨b, 0, none⟩))]) :=
      owns_keep (owns_later HO3.out hb4') fun g hg => Below.heap_setCell _ _ _ _ (HN.out g hg)
    have r0 : (w4.setCell ⟨p, 2, none⟩ (.int .i64 ((U : Int) + (n : Int)))).cell? ⟨w.heap.size, 0, none⟩ = some (.int .i64 0) := R4.cell 0
    have r1 : (w4.setCell ⟨p, 2, none⟩ (.int .i64 ((U : Int) + (n : Int)))).cell? ⟨w.heap.size, 1, none⟩ = some (.int .i64 0) := R4.cell 1
    have f0 := R4.frozen 0
    have f1 := R4.frozen 1
    simp at D4
    generalize w4.setCell ⟨p, 2, none⟩ (.int .i64 ((U : Int) + (n : Int))) = w5 at D4 R4 T4 O4 r0 r1 f0 f1 ⊢
    have H5 := Lib.hid (And.intro D4 (And.intro T4 O4))
    clear D4 R4 T4 O4 hb4 hb4' s4 t4 hw
    go_wp2_with (go_at_call 151; refine (kind_pair _ _).mono ?_; rintro e w' ⟨rfl, rfl⟩)
    obtain ⟨D5, T5, O5⟩ := H5.out
    refine bodyPost_ret (v := .tuple #[.agg #[.int .i64 2, .int .i64 os.length], .int .i64 0]) (by simp [results, Tryz.results60, go_sem, r0, r1]) rfl ⟨.slice v2a v2n v2c, rfl, ?_, ?_, ?_, ?_⟩
    · exact owns_keep O5 fun g hg => by rw [Below.heap_setCell _ _ _ _ (HN2.out g hg), Below.heap_setCell _ _ _ _ (HN2.out g hg)]
    · rcases HA2.out with h | h
      · exact .inl h
      · exact .inr ⟨_, h, by simp; omega⟩
    · have hne : p ≠ w.heap.size := hpw
      have := (D5.far (p := ⟨w.heap.size, 0, none⟩) hne (.int .i64 2)).far (p := ⟨w.heap.size, 1, none⟩) hne (.int .i64 os.length)
      simpa [Int.natCast_add] using this
    · exact (T5.setCell_new (p := ⟨w.heap.size, 0, none⟩) (Nat.le_refl _) _).setCell_new (p := ⟨w.heap.size, 1, none⟩) (Nat.le_refl _) _
end Go.Proofs.YtaaebeiigkhcjaaGreatDoor
namespace Go.Proofs.YtaaebeiigkhcjaaGreatDoor
open Go.RowKit
set_option maxRecDepth 100000
-- vector
end Go.Proofs.YtaaebeiigkhcjaaGreatDoor
namespace Go.Proofs.YtaaebeiigkhcjaaGreatDoor
open Go.RowKit
set_option maxRecDepth 100000
-- text
end Go.Proofs.YtaaebeiigkhcjaaGreatDoor
