/-
  Contracts of package heap's makers Cons, Text and Vec where no number is free below: one object more; full; rejected. Conditions: the heap lies as HeapAt says; the tables of unicode/utf8 lie as laid (Text).
-/
import Derived.Test.YthemeeiedlbhkaaGreatDoorPush
import Derived.Test.YthemeeiedlbhkaaGreatDoorAddPair
import Derived.Test.YthemeeiedlbhkaaGreatDoorAddVector
import Derived.Test.YthemeeiedlbhkaaGreatDoorAddText
namespace Go.Proofs.YthemeeiedlbhkaaGreatDoor
open Go.RowKit
set_option maxRecDepth 100000
/-- What a maker leaves: the heap with one object more. -/
def Made (S : Own) (w : World) (p : Nat) (m : HM) (o : HObj) (kd : Nat) (e : Ending) (w' : World) : Prop :=
  ∃ S2, e = .returned (.tuple #[.agg #[.int .i64 kd, .int .i64 m.objs.length], .int .i64 0]) ∧ HeapAt w' S2 p (m.push o) ∧ Turn S w w' S2
/-- What a maker leaves that gives an error. -/
def Unmade (w : World) (n : Nat) (e : Ending) (w' : World) : Prop := e = .returned (.tuple #[.agg #[.int .i64 0, .int .i64 0], .int .i64 n]) ∧ Below w.heap.size w w'
theorem own_none {w : World} {S : Own} {p : Nat} {m : HM} {vo vf : Value} {os : List Value} (h : HeapIn w S p m vo vf os) {b : Nat} (hb : w.heap.size ≤ b) : S b = none := by
  cases e : S b with
  | none => rfl
  | some k => have := h.lt b (by rw [e]; simp); omega
/-- The stores into the result's cells leave the heap. -/
theorem HeapAt.res {w : World} {S : Own} {p : Nat} {m : HM} (h : HeapAt w S p m) {r : Nat} (hr : S r = none) (i : Nat) (u : Value) : HeapAt (w.setCell ⟨r, i, none⟩ u) S p m :=
  h.keep (by simp [World.setCell]) fun b hb => Below.heap_setCell _ _ _ _ (fun e => by subst e; exact hb hr)

set_option maxHeartbeats 1000000 in
theorem cons_new (S : Own) (p : Nat) (m : HM) (a d : Wd) (w : World) (hH : HeapAt w S p m) (hm : m.many < m.limit) (hf : m.free = []) :
    Calls Tryz.prog 158 #[.pointer (some ⟨p, 0, none⟩), .agg #[.int .i64 a.1, .int .i64 a.2], .agg #[.int .i64 d.1, .int .i64 d.2]] w (Made S w p m (.pair a d) 2) := by
  obtain ⟨hok, vo, vf, os, hI⟩ := hH
  obtain ⟨fa, c, rfl⟩ := hI.vf_form hf
  obtain ⟨ak, an⟩ := a
  obtain ⟨dk, dn⟩ := d
  have c0 : w.cell? ⟨p, 0, none⟩ = some (.int .i64 m.limit) := hI.blk.cell 0
  have hlt := hI.blk.lt
  have h0 : 0 < m.limit := hok.lo
  have HI := Lib.hid hI
  have HOK := Lib.hid hok
  clear hI hok
  have k0 : (((w.alloc (.cells #[.int .i64 ak, .int .i64 an] 76)).alloc (.cells #[.int .i64 dk, .int .i64 dn] 76)).alloc (.cells #[.int .i64 0, .int .i64 0] 76)).cell? ⟨p, 0, none⟩ = some (.int .i64 m.limit) := cell_later ((((Below.refl _ _).alloc (Nat.le_refl _) _).alloc (by simp) _).alloc (by simp; omega) _) c0
  go_enter Tryz.func158, Tryz.ntmps158
  go_wp2_with (go_at_call 108; refine (made_yes p m.limit _ h0 k0).mono ?_; rintro e w' ⟨rfl, rfl⟩)
  clear k0
  obtain ⟨W, HW⟩ : ∃ W, W = (((w.alloc (.cells #[.int .i64 ak, .int .i64 an] 76)).alloc (.cells #[.int .i64 dk, .int .i64 dn] 76)).alloc (.cells #[.int .i64 0, .int .i64 0] 76)).alloc (.cells #[.int .i64 ak, .int .i64 an, .int .i64 dk, .int .i64 dn] 233) := ⟨_, rfl⟩
  rw [← HW]
  have BW : Below w.heap.size w W := by rw [HW]; exact ((((Below.refl _ _).alloc (Nat.le_refl _) _).alloc (by simp) _).alloc (by simp; omega) _).alloc (by simp; omega) _
  have hIW := Lib.hid (HI.out.keep BW.size fun b hb => BW.block b (HI.out.lt b hb))
  have RW : Hid (Blk W (w.heap.size + 1 + 1) 76 #[.int .i64 0, .int .i64 0]) := by
    have := (Blk.new ((w.alloc (.cells #[.int .i64 ak, .int .i64 an] 76)).alloc (.cells #[.int .i64 dk, .int .i64 dn] 76)) 76 #[.int .i64 0, .int .i64 0]).alloc (.cells #[.int .i64 ak, .int .i64 an, .int .i64 dk, .int .i64 dn] 233)
    rw [← HW] at this
    simp at this
    exact this
  have OW : Blk W (w.heap.size + 1 + 1 + 1) 233 #[.int .i64 ak, .int .i64 an, .int .i64 dk, .int .i64 dn] := by
    have := Blk.new (((w.alloc (.cells #[.int .i64 ak, .int .i64 an] 76)).alloc (.cells #[.int .i64 dk, .int .i64 dn] 76)).alloc (.cells #[.int .i64 0, .int .i64 0] 76)) 233 #[.int .i64 ak, .int .i64 an, .int .i64 dk, .int .i64 dn]
    rw [← HW] at this
    simpa using this
  clear HW
  have hml := HOK.out.many_le
  have hlen := HOK.out.len
  have hhi := HOK.out.hi
  have husd := HOK.out.used
  refine (add_new_pair (Own.core p vo) p (w.heap.size + 1 + 1 + 1) m.limit m.many m.used 0 vo os fa c W (fun w' _ => size_pair _ w') hhi (by omega) (by omega) (by omega) (by rw [HI.out.len]; omega) (Own.core_p p vo) hIW.out.core_row hIW.out.row hIW.out.blk).mono ?_
  rintro e w2 hA
  obtain ⟨S2, rfl, hH2, hT2, hN2⟩ := hIW.out.pushed (w0 := w) (bs := [w.heap.size + 1 + 1 + 1]) (o := .pair (ak, an) (dk, dn)) HOK.out hm hf (by simpa [HObj.size] using husd) hA
    (fun b hb => by simp at hb; subst hb; exact ⟨own_none HI.out (by omega), OW.lt⟩) BW (fun b hb => by simp at hb; omega)
    ⟨w.heap.size + 1 + 1 + 1, rfl, by simp [Own.with], OW⟩
  have R2 : Blk w2 (w.heap.size + 1 + 1) 76 #[.int .i64 0, .int .i64 0] := RW.out.turn hA.turn (hIW.out.core_none (by rw [own_none HI.out (by omega)]; simp) (by rw [own_none HI.out (by omega)]; simp))
  have r0 : w2.cell? ⟨w.heap.size + 1 + 1, 0, none⟩ = some (.int .i64 0) := R2.cell 0
  have r1 : w2.cell? ⟨w.heap.size + 1 + 1, 1, none⟩ = some (.int .i64 0) := R2.cell 1
  have f0 := R2.frozen 0
  have f1 := R2.frozen 1
  have H2 := Lib.hid (And.intro hH2 (And.intro hT2 hN2))
  clear R2 hA hH2 hT2 hN2
  go_wp2
  obtain ⟨hH2, hT2, hN2⟩ := H2.out
  have hr : S2 (w.heap.size + 1 + 1) = none := hN2 _ (Blk.lt RW.out) (own_none HI.out (by omega)) (by simp; try omega)
  refine bodyPost_ret (v := .tuple #[.agg #[.int .i64 2, .int .i64 m.objs.length], .int .i64 0]) (by simp [results, Tryz.results158, go_sem, r0, r1]) rfl ⟨S2, rfl, (hH2.res hr 0 _).res hr 1 _, ?_⟩
  exact (hT2.setCell_new (p := ⟨_, 0, none⟩) (by simp <;> omega) _).setCell_new (p := ⟨_, 1, none⟩) (by simp <;> omega) _
theorem cons_full (S : Own) (p : Nat) (m : HM) (a d : Wd) (w : World) (hH : HeapAt w S p m) (hm : m.many = m.limit) :
    Calls Tryz.prog 158 #[.pointer (some ⟨p, 0, none⟩), .agg #[.int .i64 a.1, .int .i64 a.2], .agg #[.int .i64 d.1, .int .i64 d.2]] w (Unmade w 7) := by
  obtain ⟨hok, vo, vf, os, hI⟩ := hH
  obtain ⟨ak, an⟩ := a
  obtain ⟨dk, dn⟩ := d
  have c0 : w.cell? ⟨p, 0, none⟩ = some (.int .i64 m.limit) := hI.blk.cell 0
  have hlt := hI.blk.lt
  have h0 : 0 < m.limit := hok.lo
  have HI := Lib.hid hI
  have HOK := Lib.hid hok
  clear hI hok
  have k0 : (((w.alloc (.cells #[.int .i64 ak, .int .i64 an] 76)).alloc (.cells #[.int .i64 dk, .int .i64 dn] 76)).alloc (.cells #[.int .i64 0, .int .i64 0] 76)).cell? ⟨p, 0, none⟩ = some (.int .i64 m.limit) := cell_later ((((Below.refl _ _).alloc (Nat.le_refl _) _).alloc (by simp) _).alloc (by simp; omega) _) c0
  go_enter Tryz.func158, Tryz.ntmps158
  go_wp2_with (go_at_call 108; refine (made_yes p m.limit _ h0 k0).mono ?_; rintro e w' ⟨rfl, rfl⟩)
  clear k0
  obtain ⟨W, HW⟩ : ∃ W, W = (((w.alloc (.cells #[.int .i64 ak, .int .i64 an] 76)).alloc (.cells #[.int .i64 dk, .int .i64 dn] 76)).alloc (.cells #[.int .i64 0, .int .i64 0] 76)).alloc (.cells #[.int .i64 ak, .int .i64 an, .int .i64 dk, .int .i64 dn] 233) := ⟨_, rfl⟩
  rw [← HW]
  have BW : Below w.heap.size w W := by rw [HW]; exact ((((Below.refl _ _).alloc (Nat.le_refl _) _).alloc (by simp) _).alloc (by simp; omega) _).alloc (by simp; omega) _
  have DW := HI.out.blk.below BW
  rw [hm] at DW
  have RW : Blk W (w.heap.size + 1 + 1) 76 #[.int .i64 0, .int .i64 0] := by
    have := (Blk.new ((w.alloc (.cells #[.int .i64 ak, .int .i64 an] 76)).alloc (.cells #[.int .i64 dk, .int .i64 dn] 76)) 76 #[.int .i64 0, .int .i64 0]).alloc (.cells #[.int .i64 ak, .int .i64 an, .int .i64 dk, .int .i64 dn] 233)
    rw [← HW] at this
    simpa using this
  clear HW
  refine (add_full p m.limit m.used _ vo vf W DW).mono ?_
  rintro e w2 ⟨rfl, hb2⟩
  have R2 := RW.below hb2
  have r0 : w2.cell? ⟨w.heap.size + 1 + 1, 0, none⟩ = some (.int .i64 0) := R2.cell 0
  have r1 : w2.cell? ⟨w.heap.size + 1 + 1, 1, none⟩ = some (.int .i64 0) := R2.cell 1
  have f0 := R2.frozen 0
  have f1 := R2.frozen 1
  have B2 : Below w.heap.size w w2 := BW.trans (hb2.mono BW.size)
  clear R2 RW DW hb2 hm
  go_wp2
  exact bodyPost_ret (v := .tuple #[.agg #[.int .i64 0, .int .i64 0], .int .i64 7]) (by simp [results, Tryz.results158, go_sem, r0, r1]) rfl ⟨rfl, (B2.setCell (by simp <;> omega) _).setCell (by simp <;> omega) _⟩
set_option maxHeartbeats 1000000 in
theorem vec_new (S : Own) (p : Nat) (m : HM) (A : Option Addr) (n c : Nat) (l : List Wd) (w : World) (hH : HeapAt w S p m) (hn : n ≤ 65536) (hr : Reads w w.heap.size 2 A n (wdC l)) (hm : m.many < m.limit) (hf : m.free = []) (hu : m.used + n ≤ 1048576) :
    Calls Tryz.prog 185 #[.pointer (some ⟨p, 0, none⟩), .slice A n c] w (Made S w p m (.vec l) 4) := by
  obtain ⟨hok, vo, vf, os, hI⟩ := hH
  obtain ⟨fa, cf, rfl⟩ := hI.vf_form hf
  have c0 : w.cell? ⟨p, 0, none⟩ = some (.int .i64 m.limit) := hI.blk.cell 0
  have hlt := hI.blk.lt
  have h0 : 0 < m.limit := hok.lo
  have HI := Lib.hid hI
  have HOK := Lib.hid hok
  clear hI hok
  have k0 : (w.alloc (.cells #[.int .i64 0, .int .i64 0] 76)).cell? ⟨p, 0, none⟩ = some (.int .i64 m.limit) := cell_later ((Below.refl _ _).alloc (Nat.le_refl _) _) c0
  have BR : Below w.heap.size w (w.alloc (.cells #[.int .i64 0, .int .i64 0] 76)) := (Below.refl _ _).alloc (Nat.le_refl _) _
  have RR : Blk (w.alloc (.cells #[.int .i64 0, .int .i64 0] 76)) w.heap.size 76 #[.int .i64 0, .int .i64 0] := Blk.new w _ _
  have d1 : decide ((65536 : Int) < (n : Int)) = false := decide_eq_false (by omega)
  have HR := Lib.hid (hr.alloc (Nat.le_refl _) (.cells #[.int .i64 0, .int .i64 0] 76))
  have hnl : l.length = n := by have := hr.1; rw [wdC_length] at this; omega
  have HNL := Lib.hid hnl
  have HRR := Lib.hid RR
  clear hr hnl RR
  go_enter Tryz.func185, Tryz.ntmps185
  go_wp2_with (go_at_call 108; refine (made_yes p m.limit _ h0 k0).mono ?_; rintro e w' ⟨rfl, rfl⟩)
  clear k0
  refine (clone_words A n c l _ (by omega) (HR.out.more (by simp))).mono ?_
  rintro e w1 ⟨v, rfl, hown1, hb1⟩
  have B1 : Below w.heap.size w w1 := BR.trans (hb1.mono BR.size)
  have hz1 := hb1.size
  simp at hz1
  obtain ⟨va, vc, hv⟩ : ∃ va vc, v = .slice va n vc := by
    rcases hown1.2 with ⟨h, h2⟩ | ⟨g, cap, cur, h, _⟩
    · exact ⟨none, 0, by rw [h, h2]⟩
    · exact ⟨_, _, h⟩
  subst hv
  have HO1 := Lib.hid hown1
  have HR1 := Lib.hid (HRR.out.below hb1)
  clear hown1 hb1 HRR BR
  go_wp2_with fail
  obtain ⟨W, HW⟩ : ∃ W, W = w1.alloc (.cells #[.slice va n vc] 252) := ⟨_, rfl⟩
  rw [← HW]
  have B1W : Below w1.heap.size w1 W := by rw [HW]; exact (Below.refl _ _).alloc (Nat.le_refl _) _
  have BW : Below w.heap.size w W := B1.trans (B1W.mono B1.size)
  have hIW := Lib.hid (HI.out.keep BW.size fun b hb => BW.block b (HI.out.lt b hb))
  have RW := Lib.hid (HR1.out.below B1W)
  have OW : Blk W w1.heap.size 252 #[.slice va n vc] := by rw [HW]; exact Blk.new w1 _ _
  clear HW
  have hml := HOK.out.many_le
  have hlen := HOK.out.len
  have hhi := HOK.out.hi
  have husd := HOK.out.used
  refine (add_new_vector (Own.core p vo) p w1.heap.size m.limit m.many m.used n vo os fa cf W (fun w' ht => size_vector w1.heap.size va n vc w' ((OW.turn ht (hIW.out.core_none (by rw [own_none HI.out (by omega)]; simp) (by rw [own_none HI.out (by omega)]; simp))).cell 0)) hhi (by omega) (by omega) (by omega) (by rw [HI.out.len]; omega) (Own.core_p p vo) hIW.out.core_row hIW.out.row hIW.out.blk).mono ?_
  rintro e w2 hA
  have OB := owns_later HO1.out B1W
  have hbsz := OW.lt
  have hA' : Added (Own.core p vo) W p m.limit m.many m.used (HObj.vec l).size 4 vo (.slice fa 0 cf) os (.iface 249 (.pointer (some ⟨w1.heap.size, 0, none⟩))) e w2 := by
    rw [show (HObj.vec l).size = n from HNL.out]; exact hA
  obtain ⟨S2, rfl, hH2, hT2, hN2⟩ := hIW.out.pushed (w0 := w) (bs := w1.heap.size :: (Value.slice va n vc).ownBlock.toList) (o := .vec l) HOK.out hm hf (by rw [show (HObj.vec l).size = n from HNL.out]; exact hu) hA'
    (fun b hb => by
      simp only [List.mem_cons, Option.mem_toList] at hb
      rcases hb with rfl | hb
      · exact ⟨own_none HI.out (by omega), hbsz⟩
      · have := OB.lt b hb
        exact ⟨own_none HI.out (by simp at this; omega), this.2⟩)
    BW
    (fun b hb => by
      simp only [List.mem_cons, Option.mem_toList] at hb
      rcases hb with rfl | hb
      · omega
      · have := OB.lt b hb; simp at this; omega)
    ⟨w1.heap.size, .slice va n vc, rfl, by simp [Own.with], OW, owns_mono (by rw [HNL.out]; exact OB) (Nat.zero_le _), fun g hg => by simp [Own.with, hg]⟩
  have hx : w.heap.size ∉ w1.heap.size :: (Value.slice va n vc).ownBlock.toList := by
    simp only [List.mem_cons, Option.mem_toList, not_or]
    exact ⟨by omega, fun hb => by have := OB.lt _ hb; simp at this; omega⟩
  have R2 : Blk w2 (w.heap.size) 76 #[.int .i64 0, .int .i64 0] := RW.out.turn hA.turn (hIW.out.core_none (by rw [own_none HI.out (by omega)]; simp) (by rw [own_none HI.out (by omega)]; simp))
  have r0 : w2.cell? ⟨w.heap.size, 0, none⟩ = some (.int .i64 0) := R2.cell 0
  have r1 : w2.cell? ⟨w.heap.size, 1, none⟩ = some (.int .i64 0) := R2.cell 1
  have f0 := R2.frozen 0
  have f1 := R2.frozen 1
  have H2 := Lib.hid (And.intro hH2 (And.intro hT2 hN2))
  clear R2 hA hH2 hT2 hN2
  go_wp2
  obtain ⟨hH2, hT2, hN2⟩ := H2.out
  have hr : S2 (w.heap.size) = none := hN2 _ (Blk.lt RW.out) (own_none HI.out (by omega)) hx
  refine bodyPost_ret (v := .tuple #[.agg #[.int .i64 4, .int .i64 m.objs.length], .int .i64 0]) (by simp [results, Tryz.results185, go_sem, r0, r1]) rfl ⟨S2, rfl, (hH2.res hr 0 _).res hr 1 _, ?_⟩
  exact (hT2.setCell_new (p := ⟨_, 0, none⟩) (by simp <;> omega) _).setCell_new (p := ⟨_, 1, none⟩) (by simp <;> omega) _
set_option maxHeartbeats 1000000 in
theorem vec_full (S : Own) (p : Nat) (m : HM) (A : Option Addr) (n c : Nat) (l : List Wd) (w : World) (hH : HeapAt w S p m) (hn : n ≤ 65536) (hr : Reads w w.heap.size 2 A n (wdC l)) (hm : m.many = m.limit) :
    Calls Tryz.prog 185 #[.pointer (some ⟨p, 0, none⟩), .slice A n c] w (Unmade w 7) := by
  obtain ⟨hok, vo, vf, os, hI⟩ := hH
  have c0 : w.cell? ⟨p, 0, none⟩ = some (.int .i64 m.limit) := hI.blk.cell 0
  have hlt := hI.blk.lt
  have h0 : 0 < m.limit := hok.lo
  have HI := Lib.hid hI
  have HOK := Lib.hid hok
  clear hI hok
  have k0 : (w.alloc (.cells #[.int .i64 0, .int .i64 0] 76)).cell? ⟨p, 0, none⟩ = some (.int .i64 m.limit) := cell_later ((Below.refl _ _).alloc (Nat.le_refl _) _) c0
  have BR : Below w.heap.size w (w.alloc (.cells #[.int .i64 0, .int .i64 0] 76)) := (Below.refl _ _).alloc (Nat.le_refl _) _
  have RR : Blk (w.alloc (.cells #[.int .i64 0, .int .i64 0] 76)) w.heap.size 76 #[.int .i64 0, .int .i64 0] := Blk.new w _ _
  have d1 : decide ((65536 : Int) < (n : Int)) = false := decide_eq_false (by omega)
  have HR := Lib.hid (hr.alloc (Nat.le_refl _) (.cells #[.int .i64 0, .int .i64 0] 76))
  have hnl : l.length = n := by have := hr.1; rw [wdC_length] at this; omega
  have HNL := Lib.hid hnl
  have HRR := Lib.hid RR
  clear hr hnl RR
  go_enter Tryz.func185, Tryz.ntmps185
  go_wp2_with (go_at_call 108; refine (made_yes p m.limit _ h0 k0).mono ?_; rintro e w' ⟨rfl, rfl⟩)
  clear k0
  refine (clone_words A n c l _ (by omega) (HR.out.more (by simp))).mono ?_
  rintro e w1 ⟨v, rfl, hown1, hb1⟩
  have B1 : Below w.heap.size w w1 := BR.trans (hb1.mono BR.size)
  have hz1 := hb1.size
  simp at hz1
  obtain ⟨va, vc, hv⟩ : ∃ va vc, v = .slice va n vc := by
    rcases hown1.2 with ⟨h, h2⟩ | ⟨g, cap, cur, h, _⟩
    · exact ⟨none, 0, by rw [h, h2]⟩
    · exact ⟨_, _, h⟩
  subst hv
  have HO1 := Lib.hid hown1
  have HR1 := Lib.hid (HRR.out.below hb1)
  clear hown1 hb1 HRR BR
  go_wp2_with fail
  obtain ⟨W, HW⟩ : ∃ W, W = w1.alloc (.cells #[.slice va n vc] 252) := ⟨_, rfl⟩
  rw [← HW]
  have B1W : Below w1.heap.size w1 W := by rw [HW]; exact (Below.refl _ _).alloc (Nat.le_refl _) _
  have BW : Below w.heap.size w W := B1.trans (B1W.mono B1.size)
  have hIW := Lib.hid (HI.out.keep BW.size fun b hb => BW.block b (HI.out.lt b hb))
  have RW := Lib.hid (HR1.out.below B1W)
  have OW : Blk W w1.heap.size 252 #[.slice va n vc] := by rw [HW]; exact Blk.new w1 _ _
  clear HW
  have hml := HOK.out.many_le
  have hlen := HOK.out.len
  have hhi := HOK.out.hi
  have husd := HOK.out.used
  have DW := hIW.out.blk
  rw [hm] at DW
  refine (add_full p m.limit m.used _ vo vf W DW).mono ?_
  rintro e w2 ⟨rfl, hb2⟩
  have R2 := RW.out.below hb2
  have B2 : Below w.heap.size w w2 := BW.trans (hb2.mono BW.size)
  clear DW hb2 hm OW
  have r0 : w2.cell? ⟨w.heap.size, 0, none⟩ = some (.int .i64 0) := R2.cell 0
  have r1 : w2.cell? ⟨w.heap.size, 1, none⟩ = some (.int .i64 0) := R2.cell 1
  have f0 := R2.frozen 0
  have f1 := R2.frozen 1
  clear R2
  go_wp2
  exact bodyPost_ret (v := .tuple #[.agg #[.int .i64 0, .int .i64 0], .int .i64 7]) (by simp [results, Tryz.results185, go_sem, r0, r1]) rfl ⟨rfl, (B2.setCell (by simp <;> omega) _).setCell (by simp <;> omega) _⟩
set_option maxHeartbeats 1000000 in
theorem vec_large (S : Own) (p : Nat) (m : HM) (A : Option Addr) (n c : Nat) (l : List Wd) (w : World) (hH : HeapAt w S p m) (hn : n ≤ 65536) (hr : Reads w w.heap.size 2 A n (wdC l)) (hm : m.many < m.limit) (hf : m.free = []) (hu : 1048576 < m.used + n) :
    Calls Tryz.prog 185 #[.pointer (some ⟨p, 0, none⟩), .slice A n c] w (Unmade w 7) := by
  obtain ⟨hok, vo, vf, os, hI⟩ := hH
  obtain ⟨fa, cf, rfl⟩ := hI.vf_form hf
  have c0 : w.cell? ⟨p, 0, none⟩ = some (.int .i64 m.limit) := hI.blk.cell 0
  have hlt := hI.blk.lt
  have h0 : 0 < m.limit := hok.lo
  have HI := Lib.hid hI
  have HOK := Lib.hid hok
  clear hI hok
  have k0 : (w.alloc (.cells #[.int .i64 0, .int .i64 0] 76)).cell? ⟨p, 0, none⟩ = some (.int .i64 m.limit) := cell_later ((Below.refl _ _).alloc (Nat.le_refl _) _) c0
  have BR : Below w.heap.size w (w.alloc (.cells #[.int .i64 0, .int .i64 0] 76)) := (Below.refl _ _).alloc (Nat.le_refl _) _
  have RR : Blk (w.alloc (.cells #[.int .i64 0, .int .i64 0] 76)) w.heap.size 76 #[.int .i64 0, .int .i64 0] := Blk.new w _ _
  have d1 : decide ((65536 : Int) < (n : Int)) = false := decide_eq_false (by omega)
  have HR := Lib.hid (hr.alloc (Nat.le_refl _) (.cells #[.int .i64 0, .int .i64 0] 76))
  have hnl : l.length = n := by have := hr.1; rw [wdC_length] at this; omega
  have HNL := Lib.hid hnl
  have HRR := Lib.hid RR
  clear hr hnl RR
  go_enter Tryz.func185, Tryz.ntmps185
  go_wp2_with (go_at_call 108; refine (made_yes p m.limit _ h0 k0).mono ?_; rintro e w' ⟨rfl, rfl⟩)
  clear k0
  refine (clone_words A n c l _ (by omega) (HR.out.more (by simp))).mono ?_
  rintro e w1 ⟨v, rfl, hown1, hb1⟩
  have B1 : Below w.heap.size w w1 := BR.trans (hb1.mono BR.size)
  have hz1 := hb1.size
  simp at hz1
  obtain ⟨va, vc, hv⟩ : ∃ va vc, v = .slice va n vc := by
    rcases hown1.2 with ⟨h, h2⟩ | ⟨g, cap, cur, h, _⟩
    · exact ⟨none, 0, by rw [h, h2]⟩
    · exact ⟨_, _, h⟩
  subst hv
  have HO1 := Lib.hid hown1
  have HR1 := Lib.hid (HRR.out.below hb1)
  clear hown1 hb1 HRR BR
  go_wp2_with fail
  obtain ⟨W, HW⟩ : ∃ W, W = w1.alloc (.cells #[.slice va n vc] 252) := ⟨_, rfl⟩
  rw [← HW]
  have B1W : Below w1.heap.size w1 W := by rw [HW]; exact (Below.refl _ _).alloc (Nat.le_refl _) _
  have BW : Below w.heap.size w W := B1.trans (B1W.mono B1.size)
  have hIW := Lib.hid (HI.out.keep BW.size fun b hb => BW.block b (HI.out.lt b hb))
  have RW := Lib.hid (HR1.out.below B1W)
  have OW : Blk W w1.heap.size 252 #[.slice va n vc] := by rw [HW]; exact Blk.new w1 _ _
  clear HW
  have hml := HOK.out.many_le
  have hlen := HOK.out.len
  have hhi := HOK.out.hi
  have husd := HOK.out.used
  refine (add_large_vector (Own.core p vo) p w1.heap.size m.limit m.many m.used n vo os fa cf W (fun w' ht => size_vector w1.heap.size va n vc w' ((OW.turn ht (hIW.out.core_none (by rw [own_none HI.out (by omega)]; simp) (by rw [own_none HI.out (by omega)]; simp))).cell 0)) hhi (by omega) hu husd (by omega) hIW.out.blk).mono ?_
  rintro e w2 ⟨rfl, hb2⟩
  have R2 := RW.out.below hb2
  have B2 : Below w.heap.size w w2 := BW.trans (hb2.mono BW.size)
  clear hb2 hm OW
  have r0 : w2.cell? ⟨w.heap.size, 0, none⟩ = some (.int .i64 0) := R2.cell 0
  have r1 : w2.cell? ⟨w.heap.size, 1, none⟩ = some (.int .i64 0) := R2.cell 1
  have f0 := R2.frozen 0
  have f1 := R2.frozen 1
  clear R2
  go_wp2
  exact bodyPost_ret (v := .tuple #[.agg #[.int .i64 0, .int .i64 0], .int .i64 7]) (by simp [results, Tryz.results185, go_sem, r0, r1]) rfl ⟨rfl, (B2.setCell (by simp <;> omega) _).setCell (by simp <;> omega) _⟩
theorem tabs_turn {C : Own} {w w' : World} (h : Tabs w) (ht : Turn C w w' C) (h1 : C 1 = none) (h2 : C 2 = none) : Tabs w' :=
  ⟨fun c hc => (ht.cell (p := ⟨_, _, none⟩) (tabs_lt h).1 h1).trans (h.1 c hc), fun i hi => ⟨(ht.cell (p := ⟨_, _, none⟩) (tabs_lt h).2 h2).trans (h.2 i hi).1, (ht.cell (p := ⟨_, _, none⟩) (tabs_lt h).2 h2).trans (h.2 i hi).2⟩⟩
/-- The tables of unicode/utf8 are none of the heap's blocks. -/
def TabsOut (S : Own) : Prop := S 1 = none ∧ S 2 = none
theorem TabsOut.turn {S S' : Own} {w w' : World} (h : TabsOut S) (ht : Turn S w w' S') (hT : Tabs w) : TabsOut S' := ⟨ht.new _ (tabs_lt hT).1 h.1, ht.new _ (tabs_lt hT).2 h.2⟩
theorem TabsOut.tabs {S S' : Own} {w w' : World} (h : TabsOut S) (ht : Turn S w w' S') (hT : Tabs w) : Tabs w' :=
  ⟨fun c hc => (ht.cell (p := ⟨_, _, none⟩) (tabs_lt hT).1 h.1).trans (hT.1 c hc), fun i hi => ⟨(ht.cell (p := ⟨_, _, none⟩) (tabs_lt hT).2 h.2).trans (hT.2 i hi).1, (ht.cell (p := ⟨_, _, none⟩) (tabs_lt hT).2 h.2).trans (hT.2 i hi).2⟩⟩
set_option maxHeartbeats 1000000 in
theorem text_new (S : Own) (p : Nat) (m : HM) (s : ByteArray) (w : World) (hH : HeapAt w S p m) (hs : s.size ≤ 1000000000000) (hT : Tabs w) (hTS : TabsOut S) (hv : Lib.validD s.data.toList = true) (hl : lenOf s.data.toList ≤ 65536) (hm : m.many < m.limit) (hf : m.free = []) (hu : m.used + lenOf s.data.toList ≤ 1048576) :
    Calls Tryz.prog 187 #[.pointer (some ⟨p, 0, none⟩), .string s] w (Made S w p m (.text s) 3) := by
  obtain ⟨hok, vo, vf, os, hI⟩ := hH
  obtain ⟨fa, cf, rfl⟩ := hI.vf_form hf
  have c0 : w.cell? ⟨p, 0, none⟩ = some (.int .i64 m.limit) := hI.blk.cell 0
  have hlt := hI.blk.lt
  have h0 : 0 < m.limit := hok.lo
  have HI := Lib.hid hI
  have HOK := Lib.hid hok
  clear hI hok
  have k0 : (w.alloc (.cells #[.int .i64 0, .int .i64 0] 76)).cell? ⟨p, 0, none⟩ = some (.int .i64 m.limit) := cell_later ((Below.refl _ _).alloc (Nat.le_refl _) _) c0
  have BR : Below w.heap.size w (w.alloc (.cells #[.int .i64 0, .int .i64 0] 76)) := (Below.refl _ _).alloc (Nat.le_refl _) _
  have RR : Blk (w.alloc (.cells #[.int .i64 0, .int .i64 0] 76)) w.heap.size 76 #[.int .i64 0, .int .i64 0] := Blk.new w _ _
  have HRR := Lib.hid RR
  have CV := Lib.hid (valid_yes s (w.alloc (.cells #[.int .i64 0, .int .i64 0] 76)) hs (tabs_later hT BR) hv)
  clear RR
  go_enter Tryz.func187, Tryz.ntmps187
  go_wp2_with (go_at_call 108; refine (made_yes p m.limit _ h0 k0).mono ?_; rintro e w' ⟨rfl, rfl⟩)
  clear k0
  refine CV.out.mono ?_
  rintro e w1 ⟨rfl, hb1⟩
  have B1 : Below w.heap.size w w1 := BR.trans (hb1.mono BR.size)
  have HR1 := Lib.hid (HRR.out.below hb1)
  have hz1 := hb1.size
  simp at hz1
  have CL := Lib.hid (len_any s w1 hs (tabs_later hT B1))
  generalize HL : lenOf s.data.toList = L at CL hl hu
  clear hb1 HRR CV BR
  go_wp2_with fail
  refine CL.out.mono ?_
  rintro e w2 ⟨rfl, hb2⟩
  have B2 : Below w.heap.size w w2 := B1.trans (hb2.mono B1.size)
  have HR2 := Lib.hid (HR1.out.below hb2)
  have hz2 := hb2.size
  clear hb2 CL HR1
  have d1 : decide ((65536 : Int) < (L : Int)) = false := decide_eq_false (by omega)
  have HL' := Lib.hid HL
  clear HL hv
  go_wp2_with fail
  obtain ⟨W, HW⟩ : ∃ W, W = w2.alloc (.cells #[.string s] 180) := ⟨_, rfl⟩
  rw [← HW]
  have B2W : Below w2.heap.size w2 W := by rw [HW]; exact (Below.refl _ _).alloc (Nat.le_refl _) _
  have BW : Below w.heap.size w W := B2.trans (B2W.mono B2.size)
  have hIW := Lib.hid (HI.out.keep BW.size fun b hb => BW.block b (HI.out.lt b hb))
  have RW := Lib.hid (HR2.out.below B2W)
  have OW : Blk W w2.heap.size 180 #[.string s] := by rw [HW]; exact Blk.new w2 _ _
  have TW := tabs_later hT BW
  clear HW
  have hml := HOK.out.many_le
  have hlen := HOK.out.len
  have hhi := HOK.out.hi
  have husd := HOK.out.used
  refine (add_new_text (Own.core p vo) p w2.heap.size m.limit m.many m.used L vo os fa cf W (fun w' ht => by have h := size_text w2.heap.size s w' hs (tabs_turn TW ht (hIW.out.core_none (by rw [hTS.1]; simp) (by rw [hTS.1]; simp)) (hIW.out.core_none (by rw [hTS.2]; simp) (by rw [hTS.2]; simp))) ((OW.turn ht (hIW.out.core_none (by rw [own_none HI.out (by omega)]; simp) (by rw [own_none HI.out (by omega)]; simp))).cell 0); rw [HL'.out] at h; exact h) hhi (by omega) (by omega) (by omega) (by rw [HI.out.len]; omega) (Own.core_p p vo) hIW.out.core_row hIW.out.row hIW.out.blk).mono ?_
  rintro e w3 hA
  have hbsz := OW.lt
  have hA' : Added (Own.core p vo) W p m.limit m.many m.used (HObj.text s).size 3 vo (.slice fa 0 cf) os (.iface 174 (.pointer (some ⟨w2.heap.size, 0, none⟩))) e w3 := by
    rw [show (HObj.text s).size = L from HL'.out]; exact hA
  obtain ⟨S2, rfl, hH2, hT2, hN2⟩ := hIW.out.pushed (w0 := w) (bs := [w2.heap.size]) (o := .text s) HOK.out hm hf (by rw [show (HObj.text s).size = L from HL'.out]; exact hu) hA'
    (fun b hb => by simp at hb; subst hb; exact ⟨own_none HI.out (by omega), hbsz⟩) BW (fun b hb => by simp at hb; omega)
    ⟨w2.heap.size, rfl, by simp [Own.with], OW⟩
  have hx : w.heap.size ∉ [w2.heap.size] := by simp; omega
  clear HR2 B2
  have R2 : Blk w3 (w.heap.size) 76 #[.int .i64 0, .int .i64 0] := RW.out.turn hA.turn (hIW.out.core_none (by rw [own_none HI.out (by omega)]; simp) (by rw [own_none HI.out (by omega)]; simp))
  have r0 : w3.cell? ⟨w.heap.size, 0, none⟩ = some (.int .i64 0) := R2.cell 0
  have r1 : w3.cell? ⟨w.heap.size, 1, none⟩ = some (.int .i64 0) := R2.cell 1
  have f0 := R2.frozen 0
  have f1 := R2.frozen 1
  have H2 := Lib.hid (And.intro hH2 (And.intro hT2 hN2))
  clear R2 hA hH2 hT2 hN2
  go_wp2
  obtain ⟨hH2, hT2, hN2⟩ := H2.out
  have hr : S2 (w.heap.size) = none := hN2 _ (Blk.lt RW.out) (own_none HI.out (by omega)) hx
  refine bodyPost_ret (v := .tuple #[.agg #[.int .i64 3, .int .i64 m.objs.length], .int .i64 0]) (by simp [results, Tryz.results187, go_sem, r0, r1]) rfl ⟨S2, rfl, (hH2.res hr 0 _).res hr 1 _, ?_⟩
  exact (hT2.setCell_new (p := ⟨_, 0, none⟩) (by simp <;> omega) _).setCell_new (p := ⟨_, 1, none⟩) (by simp <;> omega) _
set_option maxHeartbeats 1000000 in
theorem text_full (S : Own) (p : Nat) (m : HM) (s : ByteArray) (w : World) (hH : HeapAt w S p m) (hs : s.size ≤ 1000000000000) (hT : Tabs w) (_hTS : TabsOut S) (hv : Lib.validD s.data.toList = true) (hl : lenOf s.data.toList ≤ 65536) (hm : m.many = m.limit) :
    Calls Tryz.prog 187 #[.pointer (some ⟨p, 0, none⟩), .string s] w (Unmade w 7) := by
  obtain ⟨hok, vo, vf, os, hI⟩ := hH
  have c0 : w.cell? ⟨p, 0, none⟩ = some (.int .i64 m.limit) := hI.blk.cell 0
  have hlt := hI.blk.lt
  have h0 : 0 < m.limit := hok.lo
  have HI := Lib.hid hI
  have HOK := Lib.hid hok
  clear hI hok
  have k0 : (w.alloc (.cells #[.int .i64 0, .int .i64 0] 76)).cell? ⟨p, 0, none⟩ = some (.int .i64 m.limit) := cell_later ((Below.refl _ _).alloc (Nat.le_refl _) _) c0
  have BR : Below w.heap.size w (w.alloc (.cells #[.int .i64 0, .int .i64 0] 76)) := (Below.refl _ _).alloc (Nat.le_refl _) _
  have RR : Blk (w.alloc (.cells #[.int .i64 0, .int .i64 0] 76)) w.heap.size 76 #[.int .i64 0, .int .i64 0] := Blk.new w _ _
  have HRR := Lib.hid RR
  have CV := Lib.hid (valid_yes s (w.alloc (.cells #[.int .i64 0, .int .i64 0] 76)) hs (tabs_later hT BR) hv)
  clear RR
  go_enter Tryz.func187, Tryz.ntmps187
  go_wp2_with (go_at_call 108; refine (made_yes p m.limit _ h0 k0).mono ?_; rintro e w' ⟨rfl, rfl⟩)
  clear k0
  refine CV.out.mono ?_
  rintro e w1 ⟨rfl, hb1⟩
  have B1 : Below w.heap.size w w1 := BR.trans (hb1.mono BR.size)
  have HR1 := Lib.hid (HRR.out.below hb1)
  have hz1 := hb1.size
  simp at hz1
  have CL := Lib.hid (len_any s w1 hs (tabs_later hT B1))
  generalize HL : lenOf s.data.toList = L at CL hl
  clear hb1 HRR CV BR
  go_wp2_with fail
  refine CL.out.mono ?_
  rintro e w2 ⟨rfl, hb2⟩
  have B2 : Below w.heap.size w w2 := B1.trans (hb2.mono B1.size)
  have HR2 := Lib.hid (HR1.out.below hb2)
  have hz2 := hb2.size
  clear hb2 CL HR1
  have d1 : decide ((65536 : Int) < (L : Int)) = false := decide_eq_false (by omega)
  have HL' := Lib.hid HL
  clear HL hv
  go_wp2_with fail
  obtain ⟨W, HW⟩ : ∃ W, W = w2.alloc (.cells #[.string s] 180) := ⟨_, rfl⟩
  rw [← HW]
  have B2W : Below w2.heap.size w2 W := by rw [HW]; exact (Below.refl _ _).alloc (Nat.le_refl _) _
  have BW : Below w.heap.size w W := B2.trans (B2W.mono B2.size)
  have hIW := Lib.hid (HI.out.keep BW.size fun b hb => BW.block b (HI.out.lt b hb))
  have RW := Lib.hid (HR2.out.below B2W)
  have OW : Blk W w2.heap.size 180 #[.string s] := by rw [HW]; exact Blk.new w2 _ _
  have TW := tabs_later hT BW
  clear HW
  have hml := HOK.out.many_le
  have hlen := HOK.out.len
  have hhi := HOK.out.hi
  have husd := HOK.out.used
  have DW := hIW.out.blk
  rw [hm] at DW
  refine (add_full p m.limit m.used _ vo vf W DW).mono ?_
  rintro e w3 ⟨rfl, hb3⟩
  have R3 := RW.out.below hb3
  have B3 : Below w.heap.size w w3 := BW.trans (hb3.mono BW.size)
  clear DW hb3 hm OW
  have r0 : w3.cell? ⟨w.heap.size, 0, none⟩ = some (.int .i64 0) := R3.cell 0
  have r1 : w3.cell? ⟨w.heap.size, 1, none⟩ = some (.int .i64 0) := R3.cell 1
  have f0 := R3.frozen 0
  have f1 := R3.frozen 1
  clear R3
  go_wp2
  exact bodyPost_ret (v := .tuple #[.agg #[.int .i64 0, .int .i64 0], .int .i64 7]) (by simp [results, Tryz.results187, go_sem, r0, r1]) rfl ⟨rfl, (B3.setCell (by simp <;> omega) _).setCell (by simp <;> omega) _⟩
set_option maxHeartbeats 1000000 in
theorem text_large (S : Own) (p : Nat) (m : HM) (s : ByteArray) (w : World) (hH : HeapAt w S p m) (hs : s.size ≤ 1000000000000) (hT : Tabs w) (hTS : TabsOut S) (hv : Lib.validD s.data.toList = true) (hl : lenOf s.data.toList ≤ 65536) (hm : m.many < m.limit) (hf : m.free = []) (hu : 1048576 < m.used + lenOf s.data.toList) :
    Calls Tryz.prog 187 #[.pointer (some ⟨p, 0, none⟩), .string s] w (Unmade w 7) := by
  obtain ⟨hok, vo, vf, os, hI⟩ := hH
  obtain ⟨fa, cf, rfl⟩ := hI.vf_form hf
  have c0 : w.cell? ⟨p, 0, none⟩ = some (.int .i64 m.limit) := hI.blk.cell 0
  have hlt := hI.blk.lt
  have h0 : 0 < m.limit := hok.lo
  have HI := Lib.hid hI
  have HOK := Lib.hid hok
  clear hI hok
  have k0 : (w.alloc (.cells #[.int .i64 0, .int .i64 0] 76)).cell? ⟨p, 0, none⟩ = some (.int .i64 m.limit) := cell_later ((Below.refl _ _).alloc (Nat.le_refl _) _) c0
  have BR : Below w.heap.size w (w.alloc (.cells #[.int .i64 0, .int .i64 0] 76)) := (Below.refl _ _).alloc (Nat.le_refl _) _
  have RR : Blk (w.alloc (.cells #[.int .i64 0, .int .i64 0] 76)) w.heap.size 76 #[.int .i64 0, .int .i64 0] := Blk.new w _ _
  have HRR := Lib.hid RR
  have CV := Lib.hid (valid_yes s (w.alloc (.cells #[.int .i64 0, .int .i64 0] 76)) hs (tabs_later hT BR) hv)
  clear RR
  go_enter Tryz.func187, Tryz.ntmps187
  go_wp2_with (go_at_call 108; refine (made_yes p m.limit _ h0 k0).mono ?_; rintro e w' ⟨rfl, rfl⟩)
  clear k0
  refine CV.out.mono ?_
  rintro e w1 ⟨rfl, hb1⟩
  have B1 : Below w.heap.size w w1 := BR.trans (hb1.mono BR.size)
  have HR1 := Lib.hid (HRR.out.below hb1)
  have hz1 := hb1.size
  simp at hz1
  have CL := Lib.hid (len_any s w1 hs (tabs_later hT B1))
  generalize HL : lenOf s.data.toList = L at CL hl hu
  clear hb1 HRR CV BR
  go_wp2_with fail
  refine CL.out.mono ?_
  rintro e w2 ⟨rfl, hb2⟩
  have B2 : Below w.heap.size w w2 := B1.trans (hb2.mono B1.size)
  have HR2 := Lib.hid (HR1.out.below hb2)
  have hz2 := hb2.size
  clear hb2 CL HR1
  have d1 : decide ((65536 : Int) < (L : Int)) = false := decide_eq_false (by omega)
  have HL' := Lib.hid HL
  clear HL hv
  go_wp2_with fail
  obtain ⟨W, HW⟩ : ∃ W, W = w2.alloc (.cells #[.string s] 180) := ⟨_, rfl⟩
  rw [← HW]
  have B2W : Below w2.heap.size w2 W := by rw [HW]; exact (Below.refl _ _).alloc (Nat.le_refl _) _
  have BW : Below w.heap.size w W := B2.trans (B2W.mono B2.size)
  have hIW := Lib.hid (HI.out.keep BW.size fun b hb => BW.block b (HI.out.lt b hb))
  have RW := Lib.hid (HR2.out.below B2W)
  have OW : Blk W w2.heap.size 180 #[.string s] := by rw [HW]; exact Blk.new w2 _ _
  have TW := tabs_later hT BW
  clear HW
  have hml := HOK.out.many_le
  have hlen := HOK.out.len
  have hhi := HOK.out.hi
  have husd := HOK.out.used
  refine (add_large_text (Own.core p vo) p w2.heap.size m.limit m.many m.used L vo os fa cf W (fun w' ht => by have h := size_text w2.heap.size s w' hs (tabs_turn TW ht (hIW.out.core_none (by rw [hTS.1]; simp) (by rw [hTS.1]; simp)) (hIW.out.core_none (by rw [hTS.2]; simp) (by rw [hTS.2]; simp))) ((OW.turn ht (hIW.out.core_none (by rw [own_none HI.out (by omega)]; simp) (by rw [own_none HI.out (by omega)]; simp))).cell 0); rw [HL'.out] at h; exact h) hhi (by omega) hu husd (by omega) hIW.out.blk).mono ?_
  rintro e w3 ⟨rfl, hb3⟩
  have R3 := RW.out.below hb3
  have B3 : Below w.heap.size w w3 := BW.trans (hb3.mono BW.size)
  clear hb3 hm OW
  have r0 : w3.cell? ⟨w.heap.size, 0, none⟩ = some (.int .i64 0) := R3.cell 0
  have r1 : w3.cell? ⟨w.heap.size, 1, none⟩ = some (.int .i64 0) := R3.cell 1
  have f0 := R3.frozen 0
  have f1 := R3.frozen 1
  clear R3
  go_wp2
  exact bodyPost_ret (v := .tuple #[.agg #[.int .i64 0, .int .i64 0], .int .i64 7]) (by simp [results, Tryz.results187, go_sem, r0, r1]) rfl ⟨rfl, (B3.setCell (by simp <;> omega) _).setCell (by simp <;> omega) _⟩
set_option maxHeartbeats 1000000 in
theorem text_long (S : Own) (p : Nat) (m : HM) (s : ByteArray) (w : World) (hH : HeapAt w S p m) (hs : s.size ≤ 1000000000000) (hT : Tabs w) (_hTS : TabsOut S) (hv : Lib.validD s.data.toList = true) (hl : 65536 < lenOf s.data.toList) :
    Calls Tryz.prog 187 #[.pointer (some ⟨p, 0, none⟩), .string s] w (Unmade w 4) := by
  obtain ⟨hok, vo, vf, os, hI⟩ := hH
  have c0 : w.cell? ⟨p, 0, none⟩ = some (.int .i64 m.limit) := hI.blk.cell 0
  have hlt := hI.blk.lt
  have h0 : 0 < m.limit := hok.lo
  have HI := Lib.hid hI
  have HOK := Lib.hid hok
  clear hI hok
  have k0 : (w.alloc (.cells #[.int .i64 0, .int .i64 0] 76)).cell? ⟨p, 0, none⟩ = some (.int .i64 m.limit) := cell_later ((Below.refl _ _).alloc (Nat.le_refl _) _) c0
  have BR : Below w.heap.size w (w.alloc (.cells #[.int .i64 0, .int .i64 0] 76)) := (Below.refl _ _).alloc (Nat.le_refl _) _
  have RR : Blk (w.alloc (.cells #[.int .i64 0, .int .i64 0] 76)) w.heap.size 76 #[.int .i64 0, .int .i64 0] := Blk.new w _ _
  have HRR := Lib.hid RR
  have CV := Lib.hid (valid_yes s (w.alloc (.cells #[.int .i64 0, .int .i64 0] 76)) hs (tabs_later hT BR) hv)
  clear RR
  go_enter Tryz.func187, Tryz.ntmps187
  go_wp2_with (go_at_call 108; refine (made_yes p m.limit _ h0 k0).mono ?_; rintro e w' ⟨rfl, rfl⟩)
  clear k0
  refine CV.out.mono ?_
  rintro e w1 ⟨rfl, hb1⟩
  have B1 : Below w.heap.size w w1 := BR.trans (hb1.mono BR.size)
  have HR1 := Lib.hid (HRR.out.below hb1)
  have hz1 := hb1.size
  simp at hz1
  have CL := Lib.hid (len_any s w1 hs (tabs_later hT B1))
  generalize HL : lenOf s.data.toList = L at CL hl
  clear hb1 HRR CV BR
  go_wp2_with fail
  refine CL.out.mono ?_
  rintro e w2 ⟨rfl, hb2⟩
  have B2 : Below w.heap.size w w2 := B1.trans (hb2.mono B1.size)
  have HR2 := Lib.hid (HR1.out.below hb2)
  have hz2 := hb2.size
  clear hb2 CL HR1
  have d1 : decide ((65536 : Int) < (L : Int)) = true := decide_eq_true (by omega)
  have R2 := HR2.out
  have HL' := Lib.hid HL
  clear HL hv
  have r0 : w2.cell? ⟨w.heap.size, 0, none⟩ = some (.int .i64 0) := R2.cell 0
  have r1 : w2.cell? ⟨w.heap.size, 1, none⟩ = some (.int .i64 0) := R2.cell 1
  have f0 := R2.frozen 0
  have f1 := R2.frozen 1
  clear R2
  go_wp2
  exact bodyPost_ret (v := .tuple #[.agg #[.int .i64 0, .int .i64 0], .int .i64 4]) (by simp [results, Tryz.results187, go_sem, r0, r1]) rfl ⟨rfl, (B2.setCell (by simp <;> omega) _).setCell (by simp <;> omega) _⟩
set_option maxHeartbeats 1000000 in
theorem text_bad (S : Own) (p : Nat) (m : HM) (s : ByteArray) (w : World) (hH : HeapAt w S p m) (hs : s.size ≤ 1000000000000) (hT : Tabs w) (_hTS : TabsOut S) (hv : Lib.validD s.data.toList = false) :
    Calls Tryz.prog 187 #[.pointer (some ⟨p, 0, none⟩), .string s] w (Unmade w 5) := by
  obtain ⟨hok, vo, vf, os, hI⟩ := hH
  have c0 : w.cell? ⟨p, 0, none⟩ = some (.int .i64 m.limit) := hI.blk.cell 0
  have hlt := hI.blk.lt
  have h0 : 0 < m.limit := hok.lo
  have HI := Lib.hid hI
  have HOK := Lib.hid hok
  clear hI hok
  have k0 : (w.alloc (.cells #[.int .i64 0, .int .i64 0] 76)).cell? ⟨p, 0, none⟩ = some (.int .i64 m.limit) := cell_later ((Below.refl _ _).alloc (Nat.le_refl _) _) c0
  have BR : Below w.heap.size w (w.alloc (.cells #[.int .i64 0, .int .i64 0] 76)) := (Below.refl _ _).alloc (Nat.le_refl _) _
  have RR : Blk (w.alloc (.cells #[.int .i64 0, .int .i64 0] 76)) w.heap.size 76 #[.int .i64 0, .int .i64 0] := Blk.new w _ _
  have HRR := Lib.hid RR
  have CV := Lib.hid (valid_no s (w.alloc (.cells #[.int .i64 0, .int .i64 0] 76)) hs (tabs_later hT BR) hv)
  clear RR
  clear hT hv
  go_enter Tryz.func187, Tryz.ntmps187
  go_wp2_with (go_at_call 108; refine (made_yes p m.limit _ h0 k0).mono ?_; rintro e w' ⟨rfl, rfl⟩)
  clear k0
  refine CV.out.mono ?_
  rintro e w1 ⟨rfl, hb1⟩
  have B1 : Below w.heap.size w w1 := BR.trans (hb1.mono BR.size)
  have HR1 := Lib.hid (HRR.out.below hb1)
  have hz1 := hb1.size
  simp at hz1
  have R2 := HR1.out
  have B2 := B1
  clear hb1 HRR CV BR B1
  have r0 : w1.cell? ⟨w.heap.size, 0, none⟩ = some (.int .i64 0) := R2.cell 0
  have r1 : w1.cell? ⟨w.heap.size, 1, none⟩ = some (.int .i64 0) := R2.cell 1
  have f0 := R2.frozen 0
  have f1 := R2.frozen 1
  clear R2
  go_wp2
  exact bodyPost_ret (v := .tuple #[.agg #[.int .i64 0, .int .i64 0], .int .i64 5]) (by simp [results, Tryz.results187, go_sem, r0, r1]) rfl ⟨rfl, (B2.setCell (by simp <;> omega) _).setCell (by simp <;> omega) _⟩
end Go.Proofs.YthemeeiedlbhkaaGreatDoor
