/-
  The method copied of a heap's objects: all of the copy lies in new blocks. Conditions: the object lies as said.
  (*heap.Heap).Copy: a heap of its own with the same objects. Conditions: the heap holds no code and no free number.
  (*heap.Heap).Copy: a heap of its own with the same objects. Conditions: the heap holds no code and no free number.
-/
import Derived.Test.YthmfiahmfdadgaaDoorCollect
import Derived.Test.YthmfiahmfdadgaaDoorCnt
import Derived.Test.YthmfiahmfdadgaaDoorLives
namespace Go.Proofs.YthmfiahmfdadgaaDoor
open Go.RowKit
set_option maxRecDepth 100000

/-- An object all of whose blocks are new. -/
def NewObj (w w' : World) (V : Value) (o : HObj) : Prop := ∀ (S : Own) (k : Nat), (∀ b, w.heap.size ≤ b → b < w'.heap.size → S b = some k) → ObjAt w' S k V o
/-- What copied answers. -/
def Copied (w : World) (o : HObj) (e : Ending) (w' : World) : Prop := ∃ V, e = .returned V ∧ NewObj w w' V o ∧ Below w.heap.size w w'
theorem copied_pair (b : Nat) (a d : Wd) (w : World) (hB : Blk w b 79 #[.int .i64 a.1, .int .i64 a.2, .int .i64 d.1, .int .i64 d.2]) :
    Calls Tryd.prog 83 #[.pointer (some ⟨b, 0, none⟩)] w fun e w' => ∃ b', e = .returned (.iface 77 (.pointer (some ⟨b', 0, none⟩))) ∧ NewObj w w' (.iface 77 (.pointer (some ⟨b', 0, none⟩))) (.pair a d) ∧ Below w.heap.size w w' := by
  have c0 : w.cell? ⟨b, 0, none⟩ = some (.int .i64 a.1) := hB.cell 0
  have c1 : w.cell? ⟨b, 1, none⟩ = some (.int .i64 a.2) := hB.cell 1
  have c2 : w.cell? ⟨b, 2, none⟩ = some (.int .i64 d.1) := hB.cell 2
  have c3 : w.cell? ⟨b, 3, none⟩ = some (.int .i64 d.2) := hB.cell 3
  have hlt := hB.lt
  clear hB
  go_enter Tryd.func83, Tryd.ntmps83
  go_wp2
  go_region_with (fail)
  all_goals
    go_wp2
    go_ret
    refine ⟨w.heap.size, rfl, fun S k hS => ?_, ((Below.refl _ _).alloc (Nat.le_refl _) _).drew⟩
    exact ⟨w.heap.size, rfl, hS _ (Nat.le_refl _) (by show w.heap.size < (w.alloc _).heap.size; simp), Blk.new w _ _⟩
theorem copied_text (b : Nat) (s : ByteArray) (w : World) (hB : Blk w b 76 #[.string s]) :
    Calls Tryd.prog 80 #[.pointer (some ⟨b, 0, none⟩)] w fun e w' => ∃ b', e = .returned (.iface 74 (.pointer (some ⟨b', 0, none⟩))) ∧ NewObj w w' (.iface 74 (.pointer (some ⟨b', 0, none⟩))) (.text s) ∧ Below w.heap.size w w' := by
  have c0 : w.cell? ⟨b, 0, none⟩ = some (.string s) := hB.cell 0
  have hlt := hB.lt
  clear hB
  go_enter Tryd.func80, Tryd.ntmps80
  go_wp2
  go_ret
  refine ⟨w.heap.size, rfl, fun S k hS => ?_, (Below.refl _ _).alloc (Nat.le_refl _) _⟩
  exact ⟨w.heap.size, rfl, hS _ (Nat.le_refl _) (by simp), Blk.new w _ _⟩
theorem copied_vector (b : Nat) (r : Value) (l : List Wd) (w : World) {S : Own} {k : Nat} (hB : Blk w b 71 #[r]) (hr : RowOf w S k 24 2 r l.length (wdC l)) (hl : l.length ≤ 2000000) :
    Calls Tryd.prog 77 #[.pointer (some ⟨b, 0, none⟩)] w fun e w' => ∃ b', e = .returned (.iface 69 (.pointer (some ⟨b', 0, none⟩))) ∧ NewObj w w' (.iface 69 (.pointer (some ⟨b', 0, none⟩))) (.vec l) ∧ Below w.heap.size w w' := by
  obtain ⟨A, c, rfl, hR⟩ := hr.reads
  have c0 : w.cell? ⟨b, 0, none⟩ = some (.slice A l.length c) := hB.cell 0
  have hlt := hB.lt
  have HR := Lib.hid hR
  clear hB hr hR
  go_enter Tryd.func77, Tryd.ntmps77
  go_wp2_with fail
  refine (clone_words A l.length c l w hl HR.out).mono ?_
  rintro e w1 ⟨v, rfl, hown1, hb1⟩
  obtain ⟨va, vc, hv⟩ : ∃ va vc, v = .slice va l.length vc := by
    rcases hown1.2 with ⟨h, h2⟩ | ⟨g, cap, cur, h, _⟩
    · exact ⟨none, 0, by rw [h, h2]⟩
    · exact ⟨_, _, h⟩
  subst hv
  have H1 := Lib.hid (And.intro hown1 hb1)
  clear hown1 hb1
  go_wp2
  go_ret
  obtain ⟨hown1, hb1⟩ := H1.out
  have hz := hb1.size
  refine ⟨w1.heap.size, rfl, fun S k hS => ?_, hb1.alloc hb1.size _⟩
  refine ⟨w1.heap.size, .slice va l.length vc, rfl, hS _ hz (by simp), Blk.new w1 _ _, owns_mono (owns_later hown1 ((Below.refl _ _).alloc (Nat.le_refl _) _)) (Nat.zero_le _), fun g hg => ?_⟩
  have := hown1.lt g hg
  exact hS g this.1 (by simp; omega)
end Go.Proofs.YthmfiahmfdadgaaDoor
namespace Go.Proofs.YthmfiahmfdadgaaDoor
open Go.RowKit
set_option maxRecDepth 100000

theorem mcopied_pair (a : Addr) (w : World) : (method 232 77 (.pointer (some a)) "copyist/heap.copied").run Tryd.prog w = .ok (83, .pointer (some a)) w := by kernel_rfl
theorem mcopied_text (a : Addr) (w : World) : (method 232 74 (.pointer (some a)) "copyist/heap.copied").run Tryd.prog w = .ok (80, .pointer (some a)) w := by kernel_rfl
theorem mcopied_vector (a : Addr) (w : World) : (method 232 69 (.pointer (some a)) "copyist/heap.copied").run Tryd.prog w = .ok (77, .pointer (some a)) w := by kernel_rfl
/-- slices.Clone at no numbers. -/
theorem clone_none (fa : Option Addr) (c : Nat) (w : World) :
    Calls Tryd.prog 49 #[.slice fa 0 c] w fun e w' => ∃ v, e = .returned v ∧ w'.ownsRow w.heap.size 3 1 v 0 [] ∧ Below w.heap.size w w' := by
  have q : ∀ (w : World) (a : Option Addr) (n c n' c' : Nat), (binOp .eql 65 (.slice a n c) (.slice none n' c')).run Tryd.prog w = .ok (.bool a.isNone) w := fun w a n c n' c' => Lib.run_eql_slice_nil w _ _ a n c n' c' Tryd.underlying65
  obtain ⟨i0, hi, hz0, hz1, hz2⟩ := info_parts info_int
  cases fa with
  | none =>
    go_enter Tryd.func49, Tryd.ntmps49
    go_wp2
    go_ret
    exact ⟨_, rfl, World.ownsRow_nil _ _ _ _, Below.refl _ _⟩
  | some a =>
    have H0 : (w.alloc (.cells #[] 3)).ownsRow w.heap.size 3 1 (.slice (some ⟨w.heap.size, 0, none⟩) 0 0) 0 [] :=
      ⟨rfl, .inr ⟨w.heap.size, 0, #[], rfl, Nat.le_refl _, Blk.new _ _ _, Nat.le_refl _, Nat.zero_le _, rfl, rfl⟩⟩
    have HR : Hid (Reads (w.alloc (.cells #[] 3)) w.heap.size 1 (some a) 0 []) := ⟨rfl, fun h => absurd h (by decide)⟩
    have H0' := Lib.hid H0
    clear H0
    go_enter Tryd.func49, Tryd.ntmps49
    go_wp2_with (at_builtin; refine (wpList_append_any _ rfl (.tmp 5) (.tmp 6) _ rfl w.heap.size 3 i0 _ 1 8 Tryd.underlying65 hi hz0 hz1 hz2 rfl (by omega) (.slice (some ⟨w.heap.size, 0, none⟩) 0 0) 0 [] rfl H0'.out w.heap.size (some a) 0 c [] rfl HR.out (fun u hu => by simp at hu) (by simp only [maxLen]; omega) (by omega) (by simp) ?_); intro v1 w1 hown1 hgrow1 hat1)
    have hb : Below w.heap.size w w1 := ((Below.refl _ _).alloc (Nat.le_refl _) _).grown hgrow1 (by simp) (fun k hk => by simp [Value.ownBlock] at hk; omega)
    have HO := Lib.hid hown1
    clear hown1 hgrow1 hat1
    go_wp2
    go_ret
    exact ⟨_, rfl, by simpa using HO.out, hb⟩
theorem size_le_used {m : HM} {i : Nat} {o : HObj} (h : m.objs[i]? = some (some o)) : o.size ≤ m.used := by
  unfold HM.used
  generalize m.objs = l at h
  induction l generalizing i with
  | nil => cases h
  | cons a l ih =>
    rw [List.map_cons, List.sum_cons]
    cases i with
    | zero => cases h; simp [optSize]
    | succ i => have := ih (i := i) (by simpa using h); omega
/-- An object of the copy, or none. -/
def CellNew (w w' : World) (V : Value) : Option HObj → Prop
  | none => V = .nilIface
  | some o => NewObj w w' V o
/-- What lies there while Copy gathers: z objects so far. -/
structure CopyAt (w wr : World) (S : Own) (q : Nat) (m : HM) (z : Nat) (vo vf : Value) (os : List Value) : Prop where
  below : Below w.heap.size w wr
  blk : Blk wr q 67 #[.int .i64 m.limit, .int .i64 m.many, .int .i64 m.used, vo, vf]
  own : S q = some 0
  new : ∀ b, S b ≠ none → w.heap.size ≤ b ∧ b < wr.heap.size
  row : wr.ownsRow 0 86 1 vo z os
  rowOwn : ∀ g, vo.ownBlock = some g → S g = some 1
  objs : ∀ i v o, i < z → os[i]? = some v → m.objs[i]? = some o → CellIs wr S (i + 3) v o
  fre : wr.ownsRow 0 3 1 vf 0 []
  freOwn : ∀ g, vf.ownBlock = some g → S g = some 2
  top : ∀ b k, S b = some k → k < z + 3
/-- The owners behind one object more. -/
def Own.copied (S : Own) (v2 : Value) (lo hi z : Nat) : Own := fun b => if v2.ownBlock = some b then some 1 else if lo ≤ b ∧ b < hi then some (z + 3) else S b
theorem CopyAt.step {w wr w1 w2 : World} {S : Own} {q : Nat} {m : HM} {z : Nat} {vo vf v2 V : Value} {os : List Value} {ob : Obj} {o : Option HObj} (h : CopyAt w wr S q m z vo vf os) (ho : m.objs[z]? = some o) (hb : Below wr.heap.size wr w1) (hN : CellNew wr w1 V o)
    (hown : w2.ownsRow 0 86 1 v2 (z + 1) (os ++ [V])) (hg : (w1.alloc ob).grownBy w2 vo.ownBlock) (hat : v2.ownBlock = vo.ownBlock ∨ v2.ownBlock = some (w1.alloc ob).heap.size) :
    CopyAt w (w2.setCell ⟨q, 3, none⟩ v2) (S.copied v2 wr.heap.size w1.heap.size z) q m (z + 1) v2 vf (os ++ [V]) := by
  have hz1 := hb.size
  have hz2 : w1.heap.size + 1 ≤ w2.heap.size := by have := hg.size; simpa using this
  have hq := h.new q (by rw [h.own]; simp)
  have hvo : ∀ g, vo.ownBlock = some g → w.heap.size ≤ g ∧ g < wr.heap.size := fun g e => h.new g (by rw [h.rowOwn g e]; simp)
  have hv2 : ∀ g, v2.ownBlock = some g → (S g = some 1 ∧ g < wr.heap.size) ∨ w1.heap.size < g := fun g e => by
    rcases hat with h1 | h1
    · exact .inl ⟨h.rowOwn g (h1 ▸ e), (hvo g (h1 ▸ e)).2⟩
    · rw [h1] at e
      cases e
      exact .inr (by simp)
  have hqv : v2.ownBlock ≠ some q := fun e => by
    rcases hv2 q e with h1 | h1
    · rw [h.own] at h1; cases h1.1
    · omega
  have hfar : ∀ b, b < w1.heap.size → some b ≠ vo.ownBlock → b ≠ q → (w2.setCell ⟨q, 3, none⟩ v2).heap[b]? = w1.heap[b]? := fun b h1 h2 h3 => by
    rw [Below.heap_setCell _ _ _ _ h3, hg.block b (by simp; omega) h2, Below.heap_alloc _ _ _ h1]
  have hold : ∀ b, b < wr.heap.size → some b ≠ vo.ownBlock → b ≠ q → (w2.setCell ⟨q, 3, none⟩ v2).heap[b]? = wr.heap[b]? := fun b h1 h2 h3 => (hfar b (by omega) h2 h3).trans (hb.block b h1)
  have hS : ∀ b k, S b = some k → k ≠ 1 → (S.copied v2 wr.heap.size w1.heap.size z) b = some k := fun b k e hk => by
    have hlt := (h.new b (by rw [e]; simp)).2
    unfold Own.copied
    rw [if_neg (fun e2 => ?_), if_neg (by omega), e]
    rcases hv2 b e2 with h1 | h1
    · rw [e] at h1; exact hk (Option.some.inj h1.1)
    · omega
  have hkeep : ∀ b k, S b = some k → k ≠ 0 → k ≠ 1 → (w2.setCell ⟨q, 3, none⟩ v2).heap[b]? = wr.heap[b]? := fun b k e h0 h1 => hold b (h.new b (by rw [e]; simp)).2 (fun e2 => h1 (by have := h.rowOwn b e2.symm; rw [e] at this; exact Option.some.inj this)) (fun e2 => h0 (by have := h.own; rw [← e2, e] at this; exact Option.some.inj this))
  exact {
    below := by
      refine Below.setCell ?_ hq.1 _
      exact ((h.below.trans (hb.mono h.below.size)).alloc (by have := h.below.size; omega) ob).grown hg (by have := h.below.size; simp; omega) fun k e => (hvo k e).1
    blk := by
      have hqo : some q ≠ vo.ownBlock := fun e => by have := h.rowOwn q e.symm; rw [h.own] at this; cases this
      have d2 : Blk w2 q 67 #[.int .i64 m.limit, .int .i64 m.many, .int .i64 m.used, vo, vf] := ((h.blk.below hb).alloc ob).keep (hg.block q (by simp; omega) hqo)
      simpa using d2.set 3 v2
    own := hS q 0 h.own (by omega)
    new := fun b e => by
      show _ ∧ b < (w2.setCell ⟨q, 3, none⟩ v2).heap.size
      rw [show (w2.setCell ⟨q, 3, none⟩ v2).heap.size = w2.heap.size by simp [World.setCell]]
      unfold Own.copied at e
      split at e
      · rename_i e2
        have := hown.lt b e2
        rcases hv2 b e2 with h1 | h1
        · exact ⟨(h.new b (by rw [h1.1]; simp)).1, this.2⟩
        · have := h.below.size; omega
      · split at e
        · rename_i e2
          have := h.below.size; omega
        · have := h.new b e; omega
    row := owns_keep hown fun g e => Below.heap_setCell _ _ _ _ (fun e2 => hqv (by have e3 : g = q := e2; rw [← e3]; exact e))
    rowOwn := fun g e => by unfold Own.copied; rw [if_pos e]
    objs := fun i v o' hi h1 h2 => by
      have hosl : os.length = z := by have := h.row.1; omega
      by_cases hiz : i < z
      · rw [List.getElem?_append_left (by omega)] at h1
        exact (h.objs i v o' hiz h1 h2).keep fun b e => ⟨hkeep b _ e (by omega) (by omega), hS b _ e (by omega)⟩
      · have hi2 : i = z := by omega
        subst hi2
        rw [ho] at h2
        cases h2
        rw [List.getElem?_append_right (by omega), hosl, Nat.sub_self] at h1
        have hv : V = v := by simpa using h1
        subst hv
        cases o with
        | none => exact hN
        | some o =>
          have h3 : ObjAt w1 (S.copied v2 wr.heap.size w1.heap.size i) (i + 3) V o := hN _ _ fun b k1 k2 => by
            unfold Own.copied
            rw [if_neg (fun e2 => ?_), if_pos ⟨k1, k2⟩]
            rcases hv2 b e2 with h4 | h4 <;> omega
          refine h3.keep fun b e => ⟨?_, e⟩
          have hbi : wr.heap.size ≤ b ∧ b < w1.heap.size := by
            unfold Own.copied at e
            split at e
            · cases e
            · split at e
              · assumption
              · have := h.top b _ e; omega
          exact hfar b hbi.2 (fun e2 => by have := hvo b e2.symm; omega) (by omega)
    fre := owns_keep h.fre fun g e => hkeep g 2 (h.freOwn g e) (by omega) (by omega)
    freOwn := fun g e => hS g 2 (h.freOwn g e) (by omega)
    top := fun b k e => by
      unfold Own.copied at e
      split at e
      · cases e; omega
      · split at e
        · cases e; omega
        · have := h.top b k e; omega }
theorem CopyAt.done {w wr : World} {S : Own} {q : Nat} {m : HM} {vo vf : Value} {os : List Value} (h : CopyAt w wr S q m m.objs.length vo vf os) (hok : m.Ok) (hf : m.free = []) : HeapAt wr S q m := by
  have hosl : os.length = m.objs.length := by have := h.row.1; omega
  refine ⟨hok, vo, vf, os, ?_⟩
  exact {
    blk := h.blk
    own := h.own
    row := by rw [hosl]; exact h.row
    rowOwn := h.rowOwn
    len := hosl
    objs := fun i v o h1 h2 => h.objs i v o (by have := (List.getElem?_eq_some_iff.1 h1).1; omega) h1 h2
    fre := by rw [hf]; exact h.fre
    freOwn := h.freOwn
    lt := fun b e => (h.new b e).2 }
end Go.Proofs.YthmfiahmfdadgaaDoor
namespace Go.Proofs.YthmfiahmfdadgaaDoor
open Go.RowKit
set_option maxRecDepth 100000
theorem HeapIn.row0 {w : World} {S : Own} {p : Nat} {m : HM} {vo vf : Value} {os : List Value} {z : Nat} (h : HeapIn w S p m vo vf os) (hz : z < os.length) :
    ∃ g0 cap v o, vo = .slice (some ⟨g0, 0, none⟩) os.length cap ∧ w.cell? ⟨g0, z, none⟩ = some v ∧ m.objs[z]? = some o ∧ CellIs w S (z + 3) v o := by
  obtain ⟨g0, cap, hv, _, _⟩ := h.row.form (by omega)
  have h1 := h.row
  rw [hv] at h1
  have hz' : z < m.objs.length := by rw [← h.len]; exact hz
  refine ⟨g0, cap, os[z], m.objs[z], hv, ?_, List.getElem?_eq_getElem hz', h.objs z _ _ (List.getElem?_eq_getElem hz) (List.getElem?_eq_getElem hz')⟩
  rw [h1.cellAt z (by omega)]
  exact List.getElem?_eq_getElem hz
theorem CopyAt.start {w w1 : World} {m : HM} {va : Option Addr} {vc : Nat} (hb : Below w.heap.size w w1) (hn : w1.ownsRow w.heap.size 3 1 (.slice va 0 vc) 0 []) :
    CopyAt w (w1.alloc (.cells #[.int .i64 m.limit, .int .i64 m.many, .int .i64 m.used, .slice none 0 0, .slice va 0 vc] 67)) (fun b => if b = w1.heap.size then some 0 else if (Value.slice va 0 vc).ownBlock = some b then some 2 else none) w1.heap.size m 0 (.slice none 0 0) (.slice va 0 vc) [] := by
  have hlt : ∀ g, (Value.slice va 0 vc).ownBlock = some g → w.heap.size ≤ g ∧ g < w1.heap.size := fun g hg => hn.lt g hg
  exact {
    below := hb.alloc hb.size _
    blk := Blk.new w1 _ _
    own := by simp
    new := fun b e => by
      show _ ∧ b < (w1.alloc _).heap.size
      have := hb.size
      by_cases h1 : b = w1.heap.size
      · subst h1; simp; omega
      · by_cases h2 : (Value.slice va 0 vc).ownBlock = some b
        · have := hlt b h2; simp; omega
        · simp [h1, h2] at e
    row := World.ownsRow_nil _ _ _ _
    rowOwn := fun g hg => by simp [Value.ownBlock] at hg
    objs := fun i v o hi => absurd hi (by omega)
    fre := owns_later (owns_mono hn (Nat.zero_le _)) ((Below.refl _ _).alloc (Nat.le_refl _) _)
    freOwn := fun g hg => by
      have := hlt g hg
      rw [if_neg (by omega), if_pos hg]
    top := fun b k e => by
      split at e
      · cases e; omega
      · split at e
        · cases e; omega
        · cases e }
set_option maxHeartbeats 4000000 in
theorem copy_any (S : Own) (p : Nat) (m : HM) (w : World) (hH : HeapAt w S p m) (hf : m.free = []) (hC : ∀ (i : Nat) x y z bs cs, m.objs[i]? ≠ some (some (HObj.code x y z bs cs))) :
    Calls Tryd.prog 30 #[.pointer (some ⟨p, 0, none⟩)] w fun e w' => ∃ q S', e = .returned (.pointer (some ⟨q, 0, none⟩)) ∧ w.heap.size ≤ q ∧ HeapAt w' S' q m ∧ Below w.heap.size w w' ∧ ∀ b, S' b ≠ none → w.heap.size ≤ b := by
  obtain ⟨hok, vo, vf, os, hI⟩ := hH
  obtain ⟨fa, cf, rfl⟩ := hI.vf_form hf
  obtain ⟨i0, hi, hz0, hz1, hz2⟩ := info_parts info_obj
  obtain ⟨A2, cv, hvo⟩ : ∃ A cv, vo = .slice A os.length cv := by
    rcases hI.row.2 with ⟨h, h2⟩ | ⟨g, cap, cur, h, _⟩
    · exact ⟨none, 0, by rw [h, h2]⟩
    · exact ⟨_, _, h⟩
  subst hvo
  have c0 : w.cell? ⟨p, 0, none⟩ = some (.int .i64 m.limit) := hI.blk.cell 0
  have c1 : w.cell? ⟨p, 1, none⟩ = some (.int .i64 m.many) := hI.blk.cell 1
  have c2 : w.cell? ⟨p, 2, none⟩ = some (.int .i64 m.used) := hI.blk.cell 2
  have c3 : w.cell? ⟨p, 3, none⟩ = some (.slice A2 os.length cv) := hI.blk.cell 3
  have c4 : w.cell? ⟨p, 4, none⟩ = some (.slice fa 0 cf) := hI.blk.cell 4
  have hlt := hI.blk.lt
  have h0 : 0 < m.limit := hok.lo
  have hol : os.length ≤ 65536 := by have := hok.len; have := hok.hi; rw [hI.len]; omega
  have HI := Lib.hid hI
  have HOK := Lib.hid hok
  have HF := Lib.hid hf
  have HCC := Lib.hid hC
  clear hI hok hf hC
  go_enter Tryd.func30, Tryd.ntmps30
  go_wp2_with (go_at_call 36; refine (made_yes p m.limit _ h0 c0).mono ?_; rintro e w' ⟨rfl, rfl⟩)
  have k0 : w.drew.cell? ⟨p, 0, none⟩ = some (.int .i64 m.limit) := c0
  have k1 : w.drew.cell? ⟨p, 1, none⟩ = some (.int .i64 m.many) := c1
  have k2 : w.drew.cell? ⟨p, 2, none⟩ = some (.int .i64 m.used) := c2
  have k4 : w.drew.cell? ⟨p, 4, none⟩ = some (.slice fa 0 cf) := c4
  have A1 : Below w.heap.size w w.drew := (Below.refl _ _).drew
  go_region_held3 (fun w' => w'.cell? ⟨p, 0, none⟩ = some (.int .i64 m.limit) ∧ w'.cell? ⟨p, 1, none⟩ = some (.int .i64 m.many) ∧ w'.cell? ⟨p, 2, none⟩ = some (.int .i64 m.used) ∧ w'.cell? ⟨p, 4, none⟩ = some (.slice fa 0 cf) ∧ Below w.heap.size w w')
    (first | exact ⟨k0, k1, k2, k4, A1⟩ | (go_split_ands; exact ⟨cell_later hb (by assumption), cell_later hb (by assumption), cell_later hb (by assumption), cell_later hb (by assumption), Below.trans (by assumption) (hb.mono (Below.size (by assumption)))⟩) | (go_split_ands; exact ⟨al_cell (by assumption), al_cell (by assumption), al_cell (by assumption), al_cell (by assumption), Below.alloc (by assumption) (Below.size (by assumption)) _⟩))
    (first | (go_at_call 49; refine (clone_none fa cf _).mono ?_; rintro e w1 ⟨vn, rfl, hn1, hb⟩; have hn2 : w1.ownsRow w.heap.size 3 1 vn 0 [] := owns_mono hn1 (by go_split_ands; exact Below.size (by assumption)); have B1 : Below w.heap.size w w1 := (by go_split_ands; exact Below.trans (by assumption) (hb.mono (Below.size (by assumption)))); obtain ⟨va, vc, rfl⟩ : ∃ a c, vn = .slice a 0 c := (by rcases hn1.2 with ⟨h, _⟩ | ⟨g, cap, cur, h, _⟩ <;> exact ⟨_, _, h⟩)))
  have HC0 := Lib.hid (CopyAt.start (m := m) B1 hn2)
  have s3 : (w1.alloc (.cells #[.int .i64 m.limit, .int .i64 m.many, .int .i64 m.used, .slice none 0 0, .slice va 0 vc] 67)).cell? ⟨p, 3, none⟩ = some (.slice A2 os.length cv) := al_cell (cell_later B1 c3)
  have hqw : w.heap.size ≤ w1.heap.size := B1.size
  obtain ⟨q, hq⟩ : ∃ q, q = w1.heap.size := ⟨_, rfl⟩
  rw [← hq] at HC0 hqw ⊢
  obtain ⟨S0, hS0⟩ : ∃ S0 : Own, S0 = fun b => if b = q then some 0 else if (Value.slice va 0 vc).ownBlock = some b then some 2 else none := ⟨_, rfl⟩
  rw [← hS0] at HC0
  generalize w1.alloc (.cells #[.int .i64 m.limit, .int .i64 m.many, .int .i64 m.used, .slice none 0 0, .slice va 0 vc] 67) = wq at HC0 s3 ⊢
  clear hq hS0 hn1 hn2 hb B1 A1 k0 k1 k2 k4 c0 c1 c2 c4
  (try go_split_ands)
  go_wp2
  go_loopw [33] (fun s33 wr => ∃ (z : Nat) (vo' : Value) (os' : List Value) (Sz : Own), z ≤ os.length ∧ s33 = .int .i64 z ∧ CopyAt w wr Sz q m z vo' (.slice va 0 vc) os') (fun s33 _ => os.length - (intOf s33).toNat)
  case atStart => exact ⟨0, _, _, _, Nat.zero_le _, rfl, HC0.out⟩
  case round =>
    obtain ⟨z, vo', os', Sz, hz, rfl, hCA⟩ := hrel
    by_cases hzn : z < os.length
    · have hIr := HI.out.keep hCA.below.size fun b hb => hCA.below.block b (HI.out.lt b hb)
      obtain ⟨g0, cap0, v, o, hv0, x0, ho, hcz⟩ := hIr.row0 hzn
      injection hv0 with hA2 _ hcv
      subst hA2
      subst hcv
      have i1 : (0 : Int) ≤ (z : Int) := by omega
      have i2 : (z : Int) < (os.length : Int) := by omega
      have hosl : os'.length = z := by have := hCA.row.1; omega
      have d3 : wr.cell? ⟨q, 3, none⟩ = some vo' := hCA.blk.cell 3
      have f3 := hCA.blk.frozen 3
      obtain ⟨A3, cv3, hvo3⟩ : ∃ A cv, vo' = .slice A z cv := by
        rcases hCA.row.2 with ⟨h, h2⟩ | ⟨g, cap, cur, h, _⟩
        · exact ⟨none, 0, by rw [h, h2]⟩
        · exact ⟨_, _, h⟩
      subst hvo3
      have HO := Lib.hid ho
      have HCA := Lib.hid hCA
      clear hIr hCA ho
      cases o with
      | none =>
        have hv : v = .nilIface := hcz
        subst hv
        have heq := neq_nil_nil
        have BB : Below wr.heap.size wr wr := Below.refl _ _
        have HN : Hid (CellNew wr wr .nilIface none) := rfl
        clear hcz
        have O1 := Lib.hid (owns_later HCA.out.row BB)
        have D1 := Lib.hid (HCA.out.blk.below BB)
        have HV : Hid (Reads (wr.alloc (.cells #[.nilIface] 86)) (wr.heap.size + 1) 1 (some ⟨wr.heap.size, 0, none⟩) 1 [.nilIface]) := ⟨rfl, fun _ => ⟨_, rfl, Nat.lt_succ_self _, cell_one_new _ _ _⟩⟩
        have e3 : wr.cell? ⟨q, 3, none⟩ = some (.slice A3 z cv3) := D1.out.cell 3
        clear d3 f3
        go_wp2_with (at_builtin; refine (wpList_append_any _ rfl (.tmp 45) (.tmp 47) _ rfl 0 86 i0 _ 1 16 Tryd.underlying64 hi hz0 hz1 hz2 rfl (by omega) (.slice A3 z cv3) z os' rfl (O1.out.alloc _) (wr.heap.size + 1) (some ⟨wr.heap.size, 0, none⟩) 1 1 [.nilIface] rfl HV.out (fun u hu => by simp at hu; subst hu; rfl) (by simp only [maxLen]; omega) (by omega) (Nat.zero_le _) ?_); intro v2 w2 hown2 hgrow2 hat2; refine Hid.out ?_)
        refine Lib.hid ?_
        have HG := Lib.hid hgrow2
        have hqv : some q ≠ (Value.slice A3 z cv3).ownBlock := fun e => by have h1 := HCA.out.rowOwn q e.symm; rw [HCA.out.own] at h1; cases h1
        have D2 := (D1.out.alloc (.cells #[.nilIface] 86)).keep (hgrow2.block q (by have := D1.out.lt; simp; omega) hqv)
        have s3 : w2.cell? ⟨q, 3, none⟩ = some (.slice A3 z cv3) := D2.cell 3
        have t3 := D2.frozen 3
        have HST := Lib.hid (HCA.out.step HO.out BB HN.out hown2 hgrow2 hat2)
        obtain ⟨va2, vn2, vc2, hv2⟩ : ∃ a n c, v2 = .slice a n c := by
          rcases hown2.2 with ⟨h, _⟩ | ⟨g, cap, cur, h, _⟩ <;> exact ⟨_, _, _, h⟩
        subst hv2
        clear hown2 hgrow2 hat2 D2 O1 D1 HV e3 HG hqv HCA
        go_wp2
        go_roundw
        case rel => exact ⟨z + 1, _, _, _, by omega, by go_num, HST.out⟩
        case measure => simp [intOf]; omega
      | some o =>
        cases o with
        | pair a d =>
          obtain ⟨b, rfl, _, hb0⟩ := hcz
          have heq := neq_nil_iface 77 (.pointer (some ⟨b, 0, none⟩))
          have hm := mcopied_pair ⟨b, 0, none⟩
          have CC := Lib.hid (copied_pair b a d wr hb0)
          clear hb0
          go_wp2_with fail
          refine CC.out.mono ?_
          rintro e w1 ⟨b', rfl, hN, BB⟩
          have HN : Hid (CellNew wr w1 (.iface 77 (.pointer (some ⟨b', 0, none⟩))) (some (.pair a d))) := hN
          have B' : Below wr.heap.size wr w1 := ⟨BB.os, BB.tape, BB.output, BB.size, BB.block⟩
          clear hN CC hm heq x0
          have O1 := Lib.hid (owns_later HCA.out.row B')
          have D1 := Lib.hid (HCA.out.blk.below B')
          have HV : Hid (Reads (w1.alloc (.cells #[.iface 77 (.pointer (some ⟨b', 0, none⟩))] 86)) (w1.heap.size + 1) 1 (some ⟨w1.heap.size, 0, none⟩) 1 [.iface 77 (.pointer (some ⟨b', 0, none⟩))]) := ⟨rfl, fun _ => ⟨_, rfl, Nat.lt_succ_self _, cell_one_new _ _ _⟩⟩
          have e3 : w1.cell? ⟨q, 3, none⟩ = some (.slice A3 z cv3) := D1.out.cell 3
          clear d3 f3
          go_wp2_with (at_builtin; refine (wpList_append_any _ rfl (.tmp 45) (.tmp 47) _ rfl 0 86 i0 _ 1 16 Tryd.underlying64 hi hz0 hz1 hz2 rfl (by omega) (.slice A3 z cv3) z os' rfl (O1.out.alloc _) (w1.heap.size + 1) (some ⟨w1.heap.size, 0, none⟩) 1 1 [.iface 77 (.pointer (some ⟨b', 0, none⟩))] rfl HV.out (fun u hu => by simp at hu; subst hu; rfl) (by simp only [maxLen]; omega) (by omega) (Nat.zero_le _) ?_); intro v2 w2 hown2 hgrow2 hat2; refine Hid.out ?_)
          refine Lib.hid ?_
          have HG := Lib.hid hgrow2
          have hqv : some q ≠ (Value.slice A3 z cv3).ownBlock := fun e => by have h1 := HCA.out.rowOwn q e.symm; rw [HCA.out.own] at h1; cases h1
          have D2 := (D1.out.alloc (.cells #[.iface 77 (.pointer (some ⟨b', 0, none⟩))] 86)).keep (hgrow2.block q (by have := D1.out.lt; simp; omega) hqv)
          have s3 : w2.cell? ⟨q, 3, none⟩ = some (.slice A3 z cv3) := D2.cell 3
          have t3 := D2.frozen 3
          have HST := Lib.hid (HCA.out.step HO.out B' HN.out hown2 hgrow2 hat2)
          obtain ⟨va2, vn2, vc2, hv2⟩ : ∃ a n c, v2 = .slice a n c := by
            rcases hown2.2 with ⟨h, _⟩ | ⟨g, cap, cur, h, _⟩ <;> exact ⟨_, _, _, h⟩
          subst hv2
          clear hown2 hgrow2 hat2 D2 O1 D1 HV e3 HG hqv HCA
          go_wp2
          go_roundw
          case rel => exact ⟨z + 1, _, _, _, by omega, by go_num, HST.out⟩
          case measure => simp [intOf]; omega
        | text s =>
          obtain ⟨b, rfl, _, hb0⟩ := hcz
          have heq := neq_nil_iface 74 (.pointer (some ⟨b, 0, none⟩))
          have hm := mcopied_text ⟨b, 0, none⟩
          have CC := Lib.hid (copied_text b s wr hb0)
          clear hb0
          go_wp2_with fail
          refine CC.out.mono ?_
          rintro e w1 ⟨b', rfl, hN, BB⟩
          have HN : Hid (CellNew wr w1 (.iface 74 (.pointer (some ⟨b', 0, none⟩))) (some (.text s))) := hN
          have B' : Below wr.heap.size wr w1 := ⟨BB.os, BB.tape, BB.output, BB.size, BB.block⟩
          clear hN CC hm heq x0
          have O1 := Lib.hid (owns_later HCA.out.row B')
          have D1 := Lib.hid (HCA.out.blk.below B')
          have HV : Hid (Reads (w1.alloc (.cells #[.iface 74 (.pointer (some ⟨b', 0, none⟩))] 86)) (w1.heap.size + 1) 1 (some ⟨w1.heap.size, 0, none⟩) 1 [.iface 74 (.pointer (some ⟨b', 0, none⟩))]) := ⟨rfl, fun _ => ⟨_, rfl, Nat.lt_succ_self _, cell_one_new _ _ _⟩⟩
          have e3 : w1.cell? ⟨q, 3, none⟩ = some (.slice A3 z cv3) := D1.out.cell 3
          clear d3 f3
          go_wp2_with (at_builtin; refine (wpList_append_any _ rfl (.tmp 45) (.tmp 47) _ rfl 0 86 i0 _ 1 16 Tryd.underlying64 hi hz0 hz1 hz2 rfl (by omega) (.slice A3 z cv3) z os' rfl (O1.out.alloc _) (w1.heap.size + 1) (some ⟨w1.heap.size, 0, none⟩) 1 1 [.iface 74 (.pointer (some ⟨b', 0, none⟩))] rfl HV.out (fun u hu => by simp at hu; subst hu; rfl) (by simp only [maxLen]; omega) (by omega) (Nat.zero_le _) ?_); intro v2 w2 hown2 hgrow2 hat2; refine Hid.out ?_)
          refine Lib.hid ?_
          have HG := Lib.hid hgrow2
          have hqv : some q ≠ (Value.slice A3 z cv3).ownBlock := fun e => by have h1 := HCA.out.rowOwn q e.symm; rw [HCA.out.own] at h1; cases h1
          have D2 := (D1.out.alloc (.cells #[.iface 74 (.pointer (some ⟨b', 0, none⟩))] 86)).keep (hgrow2.block q (by have := D1.out.lt; simp; omega) hqv)
          have s3 : w2.cell? ⟨q, 3, none⟩ = some (.slice A3 z cv3) := D2.cell 3
          have t3 := D2.frozen 3
          have HST := Lib.hid (HCA.out.step HO.out B' HN.out hown2 hgrow2 hat2)
          obtain ⟨va2, vn2, vc2, hv2⟩ : ∃ a n c, v2 = .slice a n c := by
            rcases hown2.2 with ⟨h, _⟩ | ⟨g, cap, cur, h, _⟩ <;> exact ⟨_, _, _, h⟩
          subst hv2
          clear hown2 hgrow2 hat2 D2 O1 D1 HV e3 HG hqv HCA
          go_wp2
          go_roundw
          case rel => exact ⟨z + 1, _, _, _, by omega, by go_num, HST.out⟩
          case measure => simp [intOf]; omega
        | vec l =>
          obtain ⟨b, r, rfl, _, hb0, hr0⟩ := hcz
          have hll : l.length ≤ 2000000 := by have h1 := HOK.out.used; have h2 := HO.out; have h3 := size_le_used h2; simp only [HObj.size] at h3; omega
          have heq := neq_nil_iface 69 (.pointer (some ⟨b, 0, none⟩))
          have hm := mcopied_vector ⟨b, 0, none⟩
          have CC := Lib.hid (copied_vector b r l wr hb0 hr0 hll)
          clear hb0 hr0 hll
          go_wp2_with fail
          refine CC.out.mono ?_
          rintro e w1 ⟨b', rfl, hN, BB⟩
          have HN : Hid (CellNew wr w1 (.iface 69 (.pointer (some ⟨b', 0, none⟩))) (some (.vec l))) := hN
          have B' : Below wr.heap.size wr w1 := ⟨BB.os, BB.tape, BB.output, BB.size, BB.block⟩
          clear hN CC hm heq x0
          have O1 := Lib.hid (owns_later HCA.out.row B')
          have D1 := Lib.hid (HCA.out.blk.below B')
          have HV : Hid (Reads (w1.alloc (.cells #[.iface 69 (.pointer (some ⟨b', 0, none⟩))] 86)) (w1.heap.size + 1) 1 (some ⟨w1.heap.size, 0, none⟩) 1 [.iface 69 (.pointer (some ⟨b', 0, none⟩))]) := ⟨rfl, fun _ => ⟨_, rfl, Nat.lt_succ_self _, cell_one_new _ _ _⟩⟩
          have e3 : w1.cell? ⟨q, 3, none⟩ = some (.slice A3 z cv3) := D1.out.cell 3
          clear d3 f3
          go_wp2_with (at_builtin; refine (wpList_append_any _ rfl (.tmp 45) (.tmp 47) _ rfl 0 86 i0 _ 1 16 Tryd.underlying64 hi hz0 hz1 hz2 rfl (by omega) (.slice A3 z cv3) z os' rfl (O1.out.alloc _) (w1.heap.size + 1) (some ⟨w1.heap.size, 0, none⟩) 1 1 [.iface 69 (.pointer (some ⟨b', 0, none⟩))] rfl HV.out (fun u hu => by simp at hu; subst hu; rfl) (by simp only [maxLen]; omega) (by omega) (Nat.zero_le _) ?_); intro v2 w2 hown2 hgrow2 hat2; refine Hid.out ?_)
          refine Lib.hid ?_
          have HG := Lib.hid hgrow2
          have hqv : some q ≠ (Value.slice A3 z cv3).ownBlock := fun e => by have h1 := HCA.out.rowOwn q e.symm; rw [HCA.out.own] at h1; cases h1
          have D2 := (D1.out.alloc (.cells #[.iface 69 (.pointer (some ⟨b', 0, none⟩))] 86)).keep (hgrow2.block q (by have := D1.out.lt; simp; omega) hqv)
          have s3 : w2.cell? ⟨q, 3, none⟩ = some (.slice A3 z cv3) := D2.cell 3
          have t3 := D2.frozen 3
          have HST := Lib.hid (HCA.out.step HO.out B' HN.out hown2 hgrow2 hat2)
          obtain ⟨va2, vn2, vc2, hv2⟩ : ∃ a n c, v2 = .slice a n c := by
            rcases hown2.2 with ⟨h, _⟩ | ⟨g, cap, cur, h, _⟩ <;> exact ⟨_, _, _, h⟩
          subst hv2
          clear hown2 hgrow2 hat2 D2 O1 D1 HV e3 HG hqv HCA
          go_wp2
          go_roundw
          case rel => exact ⟨z + 1, _, _, _, by omega, by go_num, HST.out⟩
          case measure => simp [intOf]; omega
        | code x y z bs cs => exact absurd HO.out (HCC.out _ _ _ _ _ _)
    · have hzl : z = m.objs.length := by rw [← HI.out.len]; omega
      have HD := Lib.hid hCA
      clear hCA
      go_wp2
      go_ret
      have hD := HD.out
      rw [hzl] at hD
      exact ⟨q, Sz, rfl, hqw, hD.done HOK.out HF.out, hD.below, fun b e => (hD.new b e).1⟩
end Go.Proofs.YthmfiahmfdadgaaDoor
