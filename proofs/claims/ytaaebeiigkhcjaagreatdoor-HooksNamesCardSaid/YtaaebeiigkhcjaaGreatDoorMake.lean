/-
  Contracts of package heap's makers Cons, Text and Vec where no number is free below: one object more; full; rejected. Conditions: the heap lies as HeapAt says; the tables of unicode/utf8 lie as laid (Text).
-/
import Derived.Test.YtaaebeiigkhcjaaGreatDoorPush
import Derived.Test.YtaaebeiigkhcjaaGreatDoorA1
namespace Go.Proofs.YtaaebeiigkhcjaaGreatDoor
open Go.RowKit
set_option maxRecDepth 100000
def Made (S : Own) (w : World) (p : Nat) (m : HM) (o : HObj) (kd : Nat) (e : Ending) (w' : World) : Prop :=
  ∃ S2, e = .returned (.tuple #[.agg #[.int .i64 kd, .int .i64 m.objs.length], .int .i64 0]) ∧ HeapAt w' S2 p (m.push o) ∧ Turn S w w' S2
theorem own_none {w : World} {S : Own} {p : Nat} {m : HM} {vo vf : Value} {os : List Value} (h : HeapIn w S p m vo vf os) {b : Nat} (hb : w.heap.size ≤ b) : S b = none := by
  cases e : S b with
  | none => rfl
  | some k => have := h.lt b (by rw [e]; simp); omega
theorem HeapAt.res {w : World} {S : Own} {p : Nat} {m : HM} (h : HeapAt w S p m) {r : Nat} (hr : S r = none) (i : Nat) (u : Value) : HeapAt (w.setCell ⟨r, i, none⟩ u) S p m :=
  h.keep (by simp [World.setCell]) fun b hb => Below.heap_setCell _ _ _ _ (fun e => by subst e; exact hb hr)

set_option maxHeartbeats 1000000 in
theorem cons_new (S : Own) (p : Nat) (m : HM) (a d : Wd) (w : World) (hH : HeapAt w S p m) (hm : m.many < m.limit) (hf : m.free = []) :
    Calls Tryz.prog 14 #[.pointer (some ⟨p, 0, none⟩), .agg #[.int .i64 a.1, .int .i64 a.2], .agg #[.int .i64 d.1, .int .i64 d.2]] w (Made S w p m (.pair a d) 2) := by
  obtain ⟨hok, vo, vf, os, hI⟩ := hH
  obtain ⟨fa, c, rfl⟩ := hI.vf_form hf
  obtain ⟨ak, an⟩ := a
  obtain ⟨dk, dn⟩ := d
  have c0 : w.cell? ⟨p, 0, none⟩ = some (.int .i64 m.limit) := hI.blk.cell 0
  have hlt := hI.blk.lt
  have h0 : 0 < m.limit := hok.lo
  have HI := Lib.hid hI
  have HOK := Lib.hid hok
  clear hI hok
  have k0 : (((w.alloc (.cells #[.int .i64 ak, .int .i64 an] 27)).alloc (.cells #[.int .i64 dk, .int .i64 dn] 27)).alloc (.cells #[.int .i64 0, .int .i64 0] 27)).cell? ⟨p, 0, none⟩ = some (.int .i64 m.limit) := cell_later ((((Below.refl _ _).alloc (Nat.le_refl _) _).alloc (by simp) _).alloc (by simp; omega) _) c0
  go_enter Tryz.func14, Tryz.ntmps14
  go_wp2_with (go_at_call 59; refine (made_yes p m.limit _ h0 k0).mono ?_; rintro e w' ⟨rfl, rfl⟩)
  clear k0
  obtain ⟨W, HW⟩ : ∃ W, W = (((w.alloc (.cells #[.int .i64 ak, .int .i64 an] 27)).alloc (.cells #[.int .i64 dk, .int .i64 dn] 27)).alloc (.cells #[.int .i64 0, .int .i64 0] 27)).alloc (.cells #[.int .i64 ak, .int .i64 an, .int .i64 dk, .int .i64 dn] 95) := ⟨_, rfl⟩
  rw [← HW]
  have BW : Below w.heap.size w W := by rw [HW]; exact ((((Below.refl _ _).alloc (Nat.le_refl _) _).alloc (by simp) _).alloc (by simp; omega) _).alloc (by simp; omega) _
  have hIW := Lib.hid (HI.out.keep BW.size fun b hb => BW.block b (HI.out.lt b hb))
  have RW : Hid (Blk W (w.heap.size + 1 + 1) 27 #[.int .i64 0, .int .i64 0]) := by
    have := (Blk.new ((w.alloc (.cells #[.int .i64 ak, .int .i64 an] 27)).alloc (.cells #[.int .i64 dk, .int .i64 dn] 27)) 27 #[.int .i64 0, .int .i64 0]).alloc (.cells #[.int .i64 ak, .int .i64 an, .int .i64 dk, .int .i64 dn] 95)
    rw [← HW] at this
    simp at this
    exact this
  have OW : Blk W (w.heap.size + 1 + 1 + 1) 95 #[.int .i64 ak, .int .i64 an, .int .i64 dk, .int .i64 dn] := by
    have := Blk.new (((w.alloc (.cells #[.int .i64 ak, .int .i64 an] 27)).alloc (.cells #[.int .i64 dk, .int .i64 dn] 27)).alloc (.cells #[.int .i64 0, .int .i64 0] 27)) 95 #[.int .i64 ak, .int .i64 an, .int .i64 dk, .int .i64 dn]
    rw [← HW] at this
    simpa using this
  clear HW
  have hml := HOK.out.many_le
  have hlen := HOK.out.len
  have hhi := HOK.out.hi
  have husd := HOK.out.used
  refine (add_new_pair (Own.core p vo) p (w.heap.size + 1 + 1 + 1) m.limit m.many m.used 0 vo os fa c W (fun w' _ => size_pair _ w') hhi (by omega) (by omega) (by omega) (by rw [HI.out.len]; omega) (Own.core_p p vo) hIW.out.core_row hIW.out.row hIW.out.blk).mono ?_
  rintro e w2 hA
  obtain ⟨S2, rfl, hH2, hT2, hN2⟩ := hIW.out.pushed (w0 := w) (bs := [w.heap.size + 1 + 1 + 1]) (o := .pair (ak, an) (dk, dn)) HOK.out hm hf (by simpa [HObj.size] using husd) hA
    (fun b hb => by simp at hb; subst hb; exact ⟨own_none HI.out (by omega), OW.lt⟩) BW (fun b hb => by simp at hb; omega)
    ⟨w.heap.size + 1 + 1 + 1, rfl, by simp [Own.with], OW⟩
  have R2 : Blk w2 (w.heap.size + 1 + 1) 27 #[.int .i64 0, .int .i64 0] := RW.out.turn hA.turn (hIW.out.core_none (by rw [own_none HI.out (by omega)]; simp) (by rw [own_none HI.out (by omega)]; simp))
  have r0 : w2.cell? ⟨w.heap.size + 1 + 1, 0, none⟩ = some (.int .i64 0) := R2.cell 0
  have r1 : w2.cell? ⟨w.heap.size + 1 + 1, 1, none⟩ = some (.int .i64 0) := R2.cell 1
  have f0 := R2.frozen 0
  have f1 := R2.frozen 1
  have H2 := Lib.hid (And.intro hH2 (And.intro hT2 hN2))
  clear R2 hA hH2 hT2 hN2
  go_wp2
  obtain ⟨hH2, hT2, hN2⟩ := H2.out
  have hr : S2 (w.heap.size + 1 + 1) = none := hN2 _ (Blk.lt RW.out) (own_none HI.out (by omega)) (by simp; try omega)
  refine bodyPost_ret (v := .tuple #[.agg #[.int .i64 2, .int .i64 m.objs.length], .int .i64 0]) (by simp [results, Tryz.results14, go_sem, r0, r1]) rfl ⟨S2, rfl, (hH2.res hr 0 _).res hr 1 _, ?_⟩
  exact (hT2.setCell_new (p := ⟨_, 0, none⟩) (by simp <;> omega) _).setCell_new (p := ⟨_, 1, none⟩) (by simp <;> omega) _
def TabsOut (S : Own) : Prop := S 2 = none ∧ S 3 = none
theorem TabsOut.turn {S S' : Own} {w w' : World} (h : TabsOut S) (ht : Turn S w w' S') (hT : Tabs w) : TabsOut S' := ⟨ht.new _ (tabs_lt hT).1 h.1, ht.new _ (tabs_lt hT).2 h.2⟩
theorem TabsOut.tabs {S S' : Own} {w w' : World} (h : TabsOut S) (ht : Turn S w w' S') (hT : Tabs w) : Tabs w' :=
  ⟨fun c hc => (ht.cell (p := ⟨_, _, none⟩) (tabs_lt hT).1 h.1).trans (hT.1 c hc), fun i hi => ⟨(ht.cell (p := ⟨_, _, none⟩) (tabs_lt hT).2 h.2).trans (hT.2 i hi).1, (ht.cell (p := ⟨_, _, none⟩) (tabs_lt hT).2 h.2).trans (hT.2 i hi).2⟩⟩
end Go.Proofs.YtaaebeiigkhcjaaGreatDoor
