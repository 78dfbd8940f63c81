/-
  Contracts of slices.Clone at bytes and of package heap's own: all of the copy lies in new blocks. Conditions: the arguments read as lists.
  Contracts of package heap's Code where no number is free below: one object more; rejected by size. Conditions: the heap lies as HeapAt says; the arguments read as lists.
-/
import Derived.Test.YthmfiahmfdadgaaDoorQ1
import Derived.Test.YthmfiahmfdadgaaDoorMake
import Derived.Test.YthmfiahmfdadgaaDoorA1
import Derived.Test.YthmfiahmfdadgaaDoorSwept
namespace Go.Proofs.YthmfiahmfdadgaaDoor
open Go.RowKit
set_option maxRecDepth 100000
def byC (l : List Int) : List Value := l.map (Value.int .u8)
theorem byC_length (l : List Int) : (byC l).length = l.length := by simp [byC]
theorem byC_one (l : List Int) : ∀ u ∈ byC l, u.oneCell' = true := by
  intro u hu
  obtain ⟨x, _, rfl⟩ := List.mem_map.1 hu
  rfl
theorem info_byte : (Tryd.prog.info? 5).map (fun i => (i.zero, i.size, i.bytes)) = some (some (.int .u8 0), 1, 1) := by kernel_rfl
theorem clone_bytes_nil (c : Nat) (w : World) :
    Calls Tryd.prog 53 #[.slice none 0 c] w fun e w' => e = .returned (.slice none 0 0) ∧ w = w' := by
  have q : ∀ (w : World) (a : Option Addr) (n c n' c' : Nat), (binOp .eql 47 (.slice a n c) (.slice none n' c')).run Tryd.prog w = .ok (.bool a.isNone) w := fun w a n c n' c' => Lib.run_eql_slice_nil w _ _ a n c n' c' Tryd.underlying47
  go_enter Tryd.func53, Tryd.ntmps53
  go_wp2
  go_ret
  exact ⟨rfl, rfl⟩
theorem clone_bytes_some (a : Addr) (n c : Nat) (l : List Int) (w : World) (hn : n ≤ 2000000) (hr : Reads w w.heap.size 1 (some a) n (byC l)) :
    Calls Tryd.prog 53 #[.slice (some a) n c] w fun e w' => ∃ v, e = .returned v ∧ w'.ownsRow w.heap.size 5 1 v n (byC l) ∧ Below w.heap.size w w' := by
  have q : ∀ (w : World) (a : Option Addr) (n c n' c' : Nat), (binOp .eql 47 (.slice a n c) (.slice none n' c')).run Tryd.prog w = .ok (.bool a.isNone) w := fun w a n c n' c' => Lib.run_eql_slice_nil w _ _ a n c n' c' Tryd.underlying47
  obtain ⟨i0, hi, hz0, hz1, hz2⟩ := info_parts info_byte
  have H0 : (w.alloc (.cells #[] 5)).ownsRow w.heap.size 5 1 (.slice (some ⟨w.heap.size, 0, none⟩) 0 0) 0 [] :=
    ⟨rfl, .inr ⟨w.heap.size, 0, #[], rfl, Nat.le_refl _, Blk.new _ _ _, Nat.le_refl _, Nat.zero_le _, rfl, rfl⟩⟩
  have HR := Lib.hid (hr.alloc (Nat.le_refl _) (.cells #[] 5))
  have H0' := Lib.hid H0
  clear H0 hr
  go_enter Tryd.func53, Tryd.ntmps53
  go_wp2_with (at_builtin; refine (wpList_append_any _ rfl (.tmp 5) (.tmp 6) _ rfl w.heap.size 5 i0 _ 1 1 Tryd.underlying47 hi hz0 hz1 hz2 rfl (by omega) (.slice (some ⟨w.heap.size, 0, none⟩) 0 0) 0 [] rfl H0'.out w.heap.size (some a) n c (byC l) rfl HR.out (byC_one l) (by simp only [maxLen]; omega) (by omega) (by simp) ?_); intro v1 w1 hown1 hgrow1 hat1)
  have hb : Below w.heap.size w w1 := ((Below.refl _ _).alloc (Nat.le_refl _) _).grown hgrow1 (by simp) (fun k hk => by simp [Value.ownBlock] at hk; omega)
  have HO := Lib.hid hown1
  clear hown1 hgrow1 hat1
  go_wp2
  go_ret
  exact ⟨_, rfl, by simpa using HO.out, hb⟩
/-- slices.Clone at bytes. -/
theorem clone_bytes (A : Option Addr) (n c : Nat) (l : List Int) (w : World) (hn : n ≤ 2000000) (hr : Reads w w.heap.size 1 A n (byC l)) :
    Calls Tryd.prog 53 #[.slice A n c] w fun e w' => ∃ v, e = .returned v ∧ w'.ownsRow w.heap.size 5 1 v n (byC l) ∧ Below w.heap.size w w' := by
  rcases A with _ | a
  · have h0 : n = 0 := by
      rcases Nat.eq_zero_or_pos n with h | h
      · exact h
      · obtain ⟨ad, h, _⟩ := hr.2 h
        cases h
    subst h0
    have hl : byC l = [] := List.eq_nil_of_length_eq_zero (by simpa using hr.1)
    rw [hl]
    exact (clone_bytes_nil c w).mono fun e w' ⟨he, hw⟩ => ⟨_, he, World.ownsRow_nil _ _ _ _, hw ▸ Below.refl _ _⟩
  · exact clone_bytes_some a n c l w hn hr

theorem owns_slice {w : World} {B : Nat} {e : TypeId} {s n : Nat} {v : Value} {xs : List Value} (h : w.ownsRow B e s v n xs) : ∃ va vc, v = .slice va n vc := by
  rcases h.2 with ⟨h, h2⟩ | ⟨g, cap, cur, h, _⟩
  · exact ⟨none, 0, by rw [h, h2]⟩
  · exact ⟨_, _, h⟩
theorem clone_bytesF (A : Option Addr) (n c : Nat) (l : List Int) (w : World) (hn : n ≤ 2000000) (hr : Reads w w.heap.size 1 A n (byC l)) :
    Calls Tryd.prog 53 #[.slice A n c] w fun e w' => ∃ va vc, e = .returned (.slice va n vc) ∧ w'.ownsRow w.heap.size 5 1 (.slice va n vc) n (byC l) ∧ Below w.heap.size w w' :=
  (clone_bytes A n c l w hn hr).mono fun _ _ ⟨_, h1, h2, h3⟩ => by
    obtain ⟨va, vc, rfl⟩ := owns_slice h2
    exact ⟨va, vc, h1, h2, h3⟩
theorem clone_wordsF (A : Option Addr) (n c : Nat) (l : List Wd) (w : World) (hn : n ≤ 2000000) (hr : Reads w w.heap.size 2 A n (wdC l)) :
    Calls Tryd.prog 38 #[.slice A n c] w fun e w' => ∃ va vc, e = .returned (.slice va n vc) ∧ w'.ownsRow w.heap.size 24 2 (.slice va n vc) n (wdC l) ∧ Below w.heap.size w w' :=
  (clone_words A n c l w hn hr).mono fun _ _ ⟨_, h1, h2, h3⟩ => by
    obtain ⟨va, vc, rfl⟩ := owns_slice h2
    exact ⟨va, vc, h1, h2, h3⟩
set_option maxHeartbeats 2000000 in
theorem own_code (x y z : Int) (A B : Option Addr) (n c k d : Nat) (bs : List Int) (cs : List Wd) (w : World) (hn : n ≤ 2000000) (hk : k ≤ 2000000) (hA : Reads w w.heap.size 1 A n (byC bs)) (hB : Reads w w.heap.size 2 B k (wdC cs)) :
    Calls Tryd.prog 46 #[.agg #[.int .i64 x, .int .i64 y, .int .i64 z, .slice A n c, .slice B k d]] w fun e w' => ∃ v1 v2 mid, e = .returned (.agg #[.int .i64 x, .int .i64 y, .int .i64 z, v1, v2]) ∧ w.heap.size ≤ mid ∧ w'.ownsRow w.heap.size 5 1 v1 n (byC bs) ∧ (∀ g, v1.ownBlock = some g → g < mid) ∧ w'.ownsRow mid 24 2 v2 k (wdC cs) ∧ Below w.heap.size w w' := by
  have HA := Lib.hid hA
  have HB := Lib.hid hB
  clear hA hB
  go_enter Tryd.func46, Tryd.ntmps46
  go_wp2
  have E0 : Below w.heap.size w ((w.alloc (.cells #[.int .i64 x, .int .i64 y, .int .i64 z, .slice A n c, .slice B k d] 49)).alloc (.cells #[.int .i64 0, .int .i64 0, .int .i64 0, .slice none 0 0, .slice none 0 0] 49)).drew := (((Below.refl _ _).alloc (Nat.le_refl _) _).alloc (by simp) _).drew
  have HA1 := Lib.hid ((HA.out.below E0).more E0.size)
  have HB1 := Lib.hid ((HB.out.below E0).more E0.size)
  clear HA HB
  have X0 : Hid (Blk ((w.alloc (.cells #[.int .i64 x, .int .i64 y, .int .i64 z, .slice A n c, .slice B k d] 49)).alloc (.cells #[.int .i64 0, .int .i64 0, .int .i64 0, .slice none 0 0, .slice none 0 0] 49)).drew w.heap.size 49 #[.int .i64 x, .int .i64 y, .int .i64 z, .slice A n c, .slice B k d]) := Lib.hid ((Blk.new w _ _).alloc _)
  have Y0 : Hid (Blk ((w.alloc (.cells #[.int .i64 x, .int .i64 y, .int .i64 z, .slice A n c, .slice B k d] 49)).alloc (.cells #[.int .i64 0, .int .i64 0, .int .i64 0, .slice none 0 0, .slice none 0 0] 49)).drew (w.heap.size + 1) 49 #[.int .i64 0, .int .i64 0, .int .i64 0, .slice none 0 0, .slice none 0 0]) := Lib.hid (by
    have := Blk.new (w.alloc (.cells #[.int .i64 x, .int .i64 y, .int .i64 z, .slice A n c, .slice B k d] 49)) 49 #[.int .i64 0, .int .i64 0, .int .i64 0, .slice none 0 0, .slice none 0 0]
    simp at this
    exact this)
  go_region_with (first
    | (go_at_call 53; refine (clone_bytesF A n c bs _ hn HA1.out).mono ?_; rintro e w1 ⟨va1, vc1, rfl, ho1, hb1⟩; have X1 := Lib.hid (X0.out.below hb1); have Y1 := Lib.hid (Y0.out.below hb1); have q4 : w1.cell? ⟨w.heap.size, 4, none⟩ = some (.slice B k d) := X1.out.cell 4)
    | (go_at_call 38; refine (clone_wordsF B k d cs _ hk ((HB1.out.below hb1).more hb1.size)).mono ?_; rintro e w2 ⟨va2, vc2, rfl, ho2, hb2⟩; have X2 := Lib.hid (X1.out.below hb2); have Y2 := Lib.hid (Y1.out.below hb2); have hl3 : w.heap.size < w2.heap.size := X2.out.lt; have r0 : w2.cell? ⟨w.heap.size, 0, none⟩ = some (.int .i64 x) := X2.out.cell 0; have r1 : w2.cell? ⟨w.heap.size, 1, none⟩ = some (.int .i64 y) := X2.out.cell 1; have r2 : w2.cell? ⟨w.heap.size, 2, none⟩ = some (.int .i64 z) := X2.out.cell 2; have r3 : w2.cell? ⟨w.heap.size, 3, none⟩ = some (.slice A n c) := X2.out.cell 3; have r4 : w2.cell? ⟨w.heap.size, 4, none⟩ = some (.slice B k d) := X2.out.cell 4; have f3 := X2.out.frozen 3; have f4 := X2.out.frozen 4))
  all_goals
    have hz1 : w.heap.size + 2 ≤ w1.heap.size := by have := hb1.size; simp at this; omega
    have hz2 := hb2.size
    have B1 : Below w.heap.size w w1 := E0.trans (hb1.mono E0.size)
    have B2 : Below w.heap.size w w2 := B1.trans (hb2.mono B1.size)
    have B3 : Below w.heap.size w ((w2.setCell ⟨w.heap.size, 3, none⟩ (.slice va1 n vc1)).setCell ⟨w.heap.size, 4, none⟩ (.slice va2 k vc2)) := (B2.setCell (Nat.le_refl _) _).setCell (Nat.le_refl _) _
    have Z1 : Blk ((w2.setCell ⟨w.heap.size, 3, none⟩ (.slice va1 n vc1)).setCell ⟨w.heap.size, 4, none⟩ (.slice va2 k vc2)) w.heap.size 49 #[.int .i64 x, .int .i64 y, .int .i64 z, .slice va1 n vc1, .slice va2 k vc2] := by
      have := (X2.out.set 3 (.slice va1 n vc1)).set 4 (.slice va2 k vc2)
      simpa using this
    have Z2 : Blk ((w2.setCell ⟨w.heap.size, 3, none⟩ (.slice va1 n vc1)).setCell ⟨w.heap.size, 4, none⟩ (.slice va2 k vc2)) (w.heap.size + 1) 49 #[.int .i64 0, .int .i64 0, .int .i64 0, .slice none 0 0, .slice none 0 0] := (Y2.out.far (by simp) _).far (by simp) _
    have hsz : ((w2.setCell ⟨w.heap.size, 3, none⟩ (.slice va1 n vc1)).setCell ⟨w.heap.size, 4, none⟩ (.slice va2 k vc2)).heap.size = w2.heap.size := by simp [World.setCell]
    have O1 : ((w2.setCell ⟨w.heap.size, 3, none⟩ (.slice va1 n vc1)).setCell ⟨w.heap.size, 4, none⟩ (.slice va2 k vc2)).ownsRow (w.heap.size + 2) 5 1 (.slice va1 n vc1) n (byC bs) := by
      refine owns_keep (owns_mono ho1 (by simp)) fun g hg => ?_
      have := ho1.lt g hg
      simp at this
      rw [Below.heap_setCell _ _ _ _ (by simp; omega), Below.heap_setCell _ _ _ _ (by simp; omega)]
      exact hb2.block g this.2
    have O2 : ((w2.setCell ⟨w.heap.size, 3, none⟩ (.slice va1 n vc1)).setCell ⟨w.heap.size, 4, none⟩ (.slice va2 k vc2)).ownsRow w1.heap.size 24 2 (.slice va2 k vc2) k (wdC cs) := by
      refine owns_keep ho2 fun g hg => ?_
      have := ho2.lt g hg
      rw [Below.heap_setCell _ _ _ _ (by simp; omega), Below.heap_setCell _ _ _ _ (by simp; omega)]
    have L1 : ∀ g, (Value.slice va1 n vc1).ownBlock = some g → g < w1.heap.size := fun g hg => (ho1.lt g hg).2
    clear E0 HA1 HB1 X0 Y0 ho1 hb1 X1 Y1 q4 ho2 hb2 X2 Y2 hl3 r0 r1 r2 r3 r4 f3 f4 B1 B2
    generalize (w2.setCell ⟨w.heap.size, 3, none⟩ (.slice va1 n vc1)).setCell ⟨w.heap.size, 4, none⟩ (.slice va2 k vc2) = w3 at B3 Z1 Z2 hsz O1 O2 ⊢
    have r0 : w3.cell? ⟨w.heap.size, 0, none⟩ = some (.int .i64 x) := Z1.cell 0
    have r1 : w3.cell? ⟨w.heap.size, 1, none⟩ = some (.int .i64 y) := Z1.cell 1
    have r2 : w3.cell? ⟨w.heap.size, 2, none⟩ = some (.int .i64 z) := Z1.cell 2
    have r3 : w3.cell? ⟨w.heap.size, 3, none⟩ = some (.slice va1 n vc1) := Z1.cell 3
    have r4 : w3.cell? ⟨w.heap.size, 4, none⟩ = some (.slice va2 k vc2) := Z1.cell 4
    have s0 : w3.cell? ⟨w.heap.size + 1, 0, none⟩ = some (.int .i64 0) := Z2.cell 0
    have s1 : w3.cell? ⟨w.heap.size + 1, 1, none⟩ = some (.int .i64 0) := Z2.cell 1
    have s2 : w3.cell? ⟨w.heap.size + 1, 2, none⟩ = some (.int .i64 0) := Z2.cell 2
    have s3 : w3.cell? ⟨w.heap.size + 1, 3, none⟩ = some (.slice none 0 0) := Z2.cell 3
    have s4 : w3.cell? ⟨w.heap.size + 1, 4, none⟩ = some (.slice none 0 0) := Z2.cell 4
    have f0 := Z2.frozen 0
    have f1 := Z2.frozen 1
    have f2 := Z2.frozen 2
    have f3 := Z2.frozen 3
    have f4 := Z2.frozen 4
    have hl3 : w.heap.size + 1 < w3.heap.size := Z2.lt
    have HH := Lib.hid (And.intro Z2 (And.intro O1 (And.intro O2 (And.intro L1 B3))))
    clear Z1 Z2 O1 O2 L1 B3
    go_wp2
    obtain ⟨Z2, O1, O2, L1, B3⟩ := HH.out
    have hfar : ∀ g, w.heap.size + 2 ≤ g → (((((w3.setCell ⟨w.heap.size + 1, 0, none⟩ (.int .i64 x)).setCell ⟨w.heap.size + 1, 1, none⟩ (.int .i64 y)).setCell ⟨w.heap.size + 1, 2, none⟩ (.int .i64 z)).setCell ⟨w.heap.size + 1, 3, none⟩ (.slice va1 n vc1)).setCell ⟨w.heap.size + 1, 4, none⟩ (.slice va2 k vc2)).heap[g]? = w3.heap[g]? := fun g hg => by
      have hne : g ≠ w.heap.size + 1 := by omega
      rw [Below.heap_setCell _ _ _ _ hne, Below.heap_setCell _ _ _ _ hne, Below.heap_setCell _ _ _ _ hne, Below.heap_setCell _ _ _ _ hne, Below.heap_setCell _ _ _ _ hne]
    refine bodyPost_ret (v := .agg #[.int .i64 x, .int .i64 y, .int .i64 z, .slice va1 n vc1, .slice va2 k vc2]) (by simp [results, Tryd.results46, go_sem, s0, s1, s2, s3, s4]) rfl ⟨_, _, w1.heap.size, rfl, by omega, owns_mono (owns_keep O1 fun g hg => hfar g (O1.lt g hg).1) (by omega), L1, owns_keep O2 fun g hg => hfar g (by have := (O2.lt g hg).1; omega), ?_⟩
    exact ((((B3.setCell (by simp) _).setCell (by simp) _).setCell (by simp) _).setCell (by simp) _).setCell (by simp) _
end Go.Proofs.YthmfiahmfdadgaaDoor
namespace Go.Proofs.YthmfiahmfdadgaaDoor
open Go.RowKit
set_option maxRecDepth 100000
set_option maxHeartbeats 2000000 in
theorem code_new (S : Own) (p : Nat) (m : HM) (x y z : Int) (A B : Option Addr) (n c k d : Nat) (bs : List Int) (cs : List Wd) (w : World) (hH : HeapAt w S p m) (hn : n ≤ 65536) (hk : k ≤ 65536) (hA : Reads w w.heap.size 1 A n (byC bs)) (hB : Reads w w.heap.size 2 B k (wdC cs)) (hm : m.many < m.limit) (hf : m.free = []) (hu : m.used + (n + k) ≤ 1048576) :
    Calls Tryd.prog 23 #[.pointer (some ⟨p, 0, none⟩), .agg #[.int .i64 x, .int .i64 y, .int .i64 z, .slice A n c, .slice B k d]] w (Made S w p m (.code x y z bs cs) 6) := by
  obtain ⟨hok, vo, vf, os, hI⟩ := hH
  obtain ⟨fa, cf, rfl⟩ := hI.vf_form hf
  have c0 : w.cell? ⟨p, 0, none⟩ = some (.int .i64 m.limit) := hI.blk.cell 0
  have hlt := hI.blk.lt
  have h0 : 0 < m.limit := hok.lo
  have HI := Lib.hid hI
  have HOK := Lib.hid hok
  clear hI hok
  have BR : Below w.heap.size w ((w.alloc (.cells #[.int .i64 x, .int .i64 y, .int .i64 z, .slice A n c, .slice B k d] 49)).alloc (.cells #[.int .i64 0, .int .i64 0] 24)) := ((Below.refl _ _).alloc (Nat.le_refl _) _).alloc (by simp) _
  have k0 : ((w.alloc (.cells #[.int .i64 x, .int .i64 y, .int .i64 z, .slice A n c, .slice B k d] 49)).alloc (.cells #[.int .i64 0, .int .i64 0] 24)).cell? ⟨p, 0, none⟩ = some (.int .i64 m.limit) := cell_later BR c0
  have RR : Hid (Blk ((w.alloc (.cells #[.int .i64 x, .int .i64 y, .int .i64 z, .slice A n c, .slice B k d] 49)).alloc (.cells #[.int .i64 0, .int .i64 0] 24)) (w.heap.size + 1) 24 #[.int .i64 0, .int .i64 0]) := by
    have := Blk.new (w.alloc (.cells #[.int .i64 x, .int .i64 y, .int .i64 z, .slice A n c, .slice B k d] 49)) 24 #[.int .i64 0, .int .i64 0]
    simp at this
    exact this
  have d1 : decide ((65536 : Int) < (n : Int)) = false := decide_eq_false (by omega)
  have d2 : decide ((65536 : Int) < (k : Int)) = false := decide_eq_false (by omega)
  have HA := Lib.hid ((hA.below BR).more BR.size)
  have HB := Lib.hid ((hB.below BR).more BR.size)
  have hnl : bs.length = n := by have := hA.1; rw [byC_length] at this; omega
  have hkl : cs.length = k := by have := hB.1; rw [wdC_length] at this; omega
  have HNL := Lib.hid (And.intro hnl hkl)
  clear hA hB hnl hkl
  go_enter Tryd.func23, Tryd.ntmps23
  go_wp2_with (go_at_call 36; refine (made_yes p m.limit _ h0 k0).mono ?_; rintro e w' ⟨rfl, rfl⟩)
  clear k0
  refine (own_code x y z A B n c k d bs cs _ (by omega) (by omega) HA.out HB.out).mono ?_
  rintro e w1 ⟨u1, u2, mid, rfl, hmid, ho1, hL1, ho2, hb1⟩
  have B1 : Below w.heap.size w w1 := BR.trans (hb1.mono BR.size)
  have hz1 := hb1.size
  simp at hz1 hmid
  obtain ⟨va1, vc1, rfl⟩ := owns_slice ho1
  obtain ⟨va2, vc2, rfl⟩ := owns_slice ho2
  have HO1 := Lib.hid (And.intro ho1 (And.intro ho2 hL1))
  have HR1 := Lib.hid (RR.out.below hb1)
  clear ho1 ho2 hL1 hb1 RR BR HA HB
  go_wp2_with fail
  obtain ⟨W, HW⟩ : ∃ W, W = w1.alloc (.cells #[.int .i64 x, .int .i64 y, .int .i64 z, .slice va1 n vc1, .slice va2 k vc2] 91) := ⟨_, rfl⟩
  rw [← HW]
  have B1W : Below w1.heap.size w1 W := by rw [HW]; exact (Below.refl _ _).alloc (Nat.le_refl _) _
  have BW : Below w.heap.size w W := B1.trans (B1W.mono B1.size)
  have hIW := Lib.hid (HI.out.keep BW.size fun b hb => BW.block b (HI.out.lt b hb))
  have RW := Lib.hid (HR1.out.below B1W)
  have OW : Blk W w1.heap.size 91 #[.int .i64 x, .int .i64 y, .int .i64 z, .slice va1 n vc1, .slice va2 k vc2] := by rw [HW]; exact Blk.new w1 _ _
  clear HW
  have hml := HOK.out.many_le
  have hlen := HOK.out.len
  have hhi := HOK.out.hi
  have husd := HOK.out.used
  have HS : SizeIs 88 (Own.core p vo) W w1.heap.size (n + k) := fun w' ht => by
    have OT := OW.turn ht (hIW.out.core_none (by rw [own_none HI.out (by omega)]; simp) (by rw [own_none HI.out (by omega)]; simp))
    exact size_code w1.heap.size va1 va2 n vc1 k vc2 w' (OT.cell 3) (OT.cell 4) (by omega) (by omega)
  refine (add_new_code (Own.core p vo) p w1.heap.size m.limit m.many m.used (n + k) vo os fa cf W HS hhi (by omega) (by omega) (by omega) (by rw [HI.out.len]; omega) (Own.core_p p vo) hIW.out.core_row hIW.out.row hIW.out.blk).mono ?_
  rintro e w2 hA
  obtain ⟨ho1, ho2, hL1⟩ := HO1.out
  have OB1 := owns_later ho1 B1W
  have OB2 := owns_later ho2 B1W
  have hbsz := OW.lt
  have hsz : (HObj.code x y z bs cs).size = n + k := by show bs.length + cs.length = _; rw [HNL.out.1, HNL.out.2]
  have hA' : Added (Own.core p vo) W p m.limit m.many m.used (HObj.code x y z bs cs).size 6 vo (.slice fa 0 cf) os (.iface 88 (.pointer (some ⟨w1.heap.size, 0, none⟩))) e w2 := by
    rw [hsz]; exact hA
  have hin : ∀ b ∈ w1.heap.size :: ((Value.slice va1 n vc1).ownBlock.toList ++ (Value.slice va2 k vc2).ownBlock.toList), w.heap.size + 2 ≤ b ∧ b < W.heap.size := fun b hb => by
    simp only [List.mem_cons, List.mem_append, Option.mem_toList] at hb
    rcases hb with rfl | hb | hb
    · omega
    · have := OB1.lt b hb; simp at this; omega
    · have := OB2.lt b hb; omega
  obtain ⟨S2, rfl, hH2, hT2, hN2⟩ := hIW.out.pushed (w0 := w) (bs := w1.heap.size :: ((Value.slice va1 n vc1).ownBlock.toList ++ (Value.slice va2 k vc2).ownBlock.toList)) (o := .code x y z bs cs) HOK.out hm hf (by rw [hsz]; exact hu) hA'
    (fun b hb => ⟨own_none HI.out (by have := hin b hb; omega), (hin b hb).2⟩)
    BW
    (fun b hb => by have := hin b hb; omega)
    ⟨w1.heap.size, .slice va1 n vc1, .slice va2 k vc2, rfl, by simp [Own.with], OW, ⟨owns_mono (by rw [HNL.out.1]; exact OB1) (Nat.zero_le _), fun g hg => by simp [Own.with, hg]⟩, ⟨owns_mono (by rw [HNL.out.2]; exact OB2) (Nat.zero_le _), fun g hg => by simp [Own.with, hg]⟩⟩
  have hx : w.heap.size + 1 ∉ w1.heap.size :: ((Value.slice va1 n vc1).ownBlock.toList ++ (Value.slice va2 k vc2).ownBlock.toList) := fun hb => by have := hin _ hb; omega
  have R2 : Blk w2 (w.heap.size + 1) 24 #[.int .i64 0, .int .i64 0] := RW.out.turn hA.turn (hIW.out.core_none (by rw [own_none HI.out (by omega)]; simp) (by rw [own_none HI.out (by omega)]; simp))
  have r0 : w2.cell? ⟨w.heap.size + 1, 0, none⟩ = some (.int .i64 0) := R2.cell 0
  have r1 : w2.cell? ⟨w.heap.size + 1, 1, none⟩ = some (.int .i64 0) := R2.cell 1
  have f0 := R2.frozen 0
  have f1 := R2.frozen 1
  have H2 := Lib.hid (And.intro hH2 (And.intro hT2 hN2))
  clear R2 hA hH2 hT2 hN2
  go_wp2
  obtain ⟨hH2, hT2, hN2⟩ := H2.out
  have hr : S2 (w.heap.size + 1) = none := hN2 _ (Blk.lt RW.out) (own_none HI.out (by omega)) hx
  refine bodyPost_ret (v := .tuple #[.agg #[.int .i64 6, .int .i64 m.objs.length], .int .i64 0]) (by simp [results, Tryd.results23, go_sem, r0, r1]) rfl ⟨S2, rfl, (hH2.res hr 0 _).res hr 1 _, ?_⟩
  exact (hT2.setCell_new (p := ⟨_, 0, none⟩) (by simp <;> omega) _).setCell_new (p := ⟨_, 1, none⟩) (by simp <;> omega) _
set_option maxHeartbeats 2000000 in
theorem code_large (S : Own) (p : Nat) (m : HM) (x y z : Int) (A B : Option Addr) (n c k d : Nat) (bs : List Int) (cs : List Wd) (w : World) (hH : HeapAt w S p m) (hn : n ≤ 65536) (hk : k ≤ 65536) (hA : Reads w w.heap.size 1 A n (byC bs)) (hB : Reads w w.heap.size 2 B k (wdC cs)) (hm : m.many < m.limit) (hf : m.free = []) (hu : 1048576 < m.used + (n + k)) :
    Calls Tryd.prog 23 #[.pointer (some ⟨p, 0, none⟩), .agg #[.int .i64 x, .int .i64 y, .int .i64 z, .slice A n c, .slice B k d]] w (Unmade w 7) := by
  obtain ⟨hok, vo, vf, os, hI⟩ := hH
  obtain ⟨fa, cf, rfl⟩ := hI.vf_form hf
  have c0 : w.cell? ⟨p, 0, none⟩ = some (.int .i64 m.limit) := hI.blk.cell 0
  have hlt := hI.blk.lt
  have h0 : 0 < m.limit := hok.lo
  have HI := Lib.hid hI
  have HOK := Lib.hid hok
  clear hI hok
  have BR : Below w.heap.size w ((w.alloc (.cells #[.int .i64 x, .int .i64 y, .int .i64 z, .slice A n c, .slice B k d] 49)).alloc (.cells #[.int .i64 0, .int .i64 0] 24)) := ((Below.refl _ _).alloc (Nat.le_refl _) _).alloc (by simp) _
  have k0 : ((w.alloc (.cells #[.int .i64 x, .int .i64 y, .int .i64 z, .slice A n c, .slice B k d] 49)).alloc (.cells #[.int .i64 0, .int .i64 0] 24)).cell? ⟨p, 0, none⟩ = some (.int .i64 m.limit) := cell_later BR c0
  have RR : Hid (Blk ((w.alloc (.cells #[.int .i64 x, .int .i64 y, .int .i64 z, .slice A n c, .slice B k d] 49)).alloc (.cells #[.int .i64 0, .int .i64 0] 24)) (w.heap.size + 1) 24 #[.int .i64 0, .int .i64 0]) := by
    have := Blk.new (w.alloc (.cells #[.int .i64 x, .int .i64 y, .int .i64 z, .slice A n c, .slice B k d] 49)) 24 #[.int .i64 0, .int .i64 0]
    simp at this
    exact this
  have d1 : decide ((65536 : Int) < (n : Int)) = false := decide_eq_false (by omega)
  have d2 : decide ((65536 : Int) < (k : Int)) = false := decide_eq_false (by omega)
  have HA := Lib.hid ((hA.below BR).more BR.size)
  have HB := Lib.hid ((hB.below BR).more BR.size)
  have hnl : bs.length = n := by have := hA.1; rw [byC_length] at this; omega
  have hkl : cs.length = k := by have := hB.1; rw [wdC_length] at this; omega
  have HNL := Lib.hid (And.intro hnl hkl)
  clear hA hB hnl hkl
  go_enter Tryd.func23, Tryd.ntmps23
  go_wp2_with (go_at_call 36; refine (made_yes p m.limit _ h0 k0).mono ?_; rintro e w' ⟨rfl, rfl⟩)
  clear k0
  refine (own_code x y z A B n c k d bs cs _ (by omega) (by omega) HA.out HB.out).mono ?_
  rintro e w1 ⟨u1, u2, mid, rfl, hmid, ho1, hL1, ho2, hb1⟩
  have B1 : Below w.heap.size w w1 := BR.trans (hb1.mono BR.size)
  have hz1 := hb1.size
  simp at hz1 hmid
  obtain ⟨va1, vc1, rfl⟩ := owns_slice ho1
  obtain ⟨va2, vc2, rfl⟩ := owns_slice ho2
  have HO1 := Lib.hid (And.intro ho1 (And.intro ho2 hL1))
  have HR1 := Lib.hid (RR.out.below hb1)
  clear ho1 ho2 hL1 hb1 RR BR HA HB
  go_wp2_with fail
  obtain ⟨W, HW⟩ : ∃ W, W = w1.alloc (.cells #[.int .i64 x, .int .i64 y, .int .i64 z, .slice va1 n vc1, .slice va2 k vc2] 91) := ⟨_, rfl⟩
  rw [← HW]
  have B1W : Below w1.heap.size w1 W := by rw [HW]; exact (Below.refl _ _).alloc (Nat.le_refl _) _
  have BW : Below w.heap.size w W := B1.trans (B1W.mono B1.size)
  have hIW := Lib.hid (HI.out.keep BW.size fun b hb => BW.block b (HI.out.lt b hb))
  have RW := Lib.hid (HR1.out.below B1W)
  have OW : Blk W w1.heap.size 91 #[.int .i64 x, .int .i64 y, .int .i64 z, .slice va1 n vc1, .slice va2 k vc2] := by rw [HW]; exact Blk.new w1 _ _
  clear HW
  have hml := HOK.out.many_le
  have hlen := HOK.out.len
  have hhi := HOK.out.hi
  have husd := HOK.out.used
  have HS : SizeIs 88 (Own.core p vo) W w1.heap.size (n + k) := fun w' ht => by
    have OT := OW.turn ht (hIW.out.core_none (by rw [own_none HI.out (by omega)]; simp) (by rw [own_none HI.out (by omega)]; simp))
    exact size_code w1.heap.size va1 va2 n vc1 k vc2 w' (OT.cell 3) (OT.cell 4) (by omega) (by omega)
  refine (add_large_code (Own.core p vo) p w1.heap.size m.limit m.many m.used (n + k) vo os fa cf W HS hhi (by omega) hu husd (by omega) hIW.out.blk).mono ?_
  rintro e w2 ⟨rfl, hb2⟩
  have R2 := RW.out.below hb2
  have B2 : Below w.heap.size w w2 := BW.trans (hb2.mono BW.size)
  clear hb2 hm OW
  have r0 : w2.cell? ⟨w.heap.size + 1, 0, none⟩ = some (.int .i64 0) := R2.cell 0
  have r1 : w2.cell? ⟨w.heap.size + 1, 1, none⟩ = some (.int .i64 0) := R2.cell 1
  have f0 := R2.frozen 0
  have f1 := R2.frozen 1
  clear R2
  go_wp2
  exact bodyPost_ret (v := .tuple #[.agg #[.int .i64 0, .int .i64 0], .int .i64 7]) (by simp [results, Tryd.results23, go_sem, r0, r1]) rfl ⟨rfl, (B2.setCell (by simp <;> omega) _).setCell (by simp <;> omega) _⟩
end Go.Proofs.YthmfiahmfdadgaaDoor
