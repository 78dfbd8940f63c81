/-
  The closure 'mark' of (*heap.Heap).Collect: what it marks and stacks, said of the plain heap. Conditions: the heap and the closure's variables lie as MarkAt says.
-/
import Derived.Test.YthmfiahmfdadgaaDoorNums
import Derived.Test.YthmfiahmfdadgaaDoorLives
import Derived.Test.YthmfiahmfdadgaaDoorCnt
import Derived.Test.YthmfiahmfdadgaaDoorHolds
namespace Go.Proofs.YthmfiahmfdadgaaDoor
open Go.RowKit
set_option maxRecDepth 100000

/-- One word: what it denotes is marked and stacked unless it was. -/
def mark1 (m : HM) (st : List Bool × List Nat) (x : Wd) : List Bool × List Nat :=
  match m.find x with
  | some _ => if st.1[x.2.toNat]? = some false then (st.1.set x.2.toNat true, st.2 ++ [x.2.toNat]) else st
  | none => st
def markL (m : HM) (st : List Bool × List Nat) (l : List Wd) : List Bool × List Nat := l.foldl (mark1 m) st
theorem markL_take {m : HM} {st : List Bool × List Nat} {l : List Wd} {z : Nat} {x : Wd} (h : l[z]? = some x) : markL m st (l.take (z + 1)) = mark1 m (markL m st (l.take z)) x := by
  unfold markL
  rw [List.take_add_one, h]
  simp

/-- A heap while its objects are being marked: the closure's variables, the marks M, the stacked numbers K. -/
structure MarkAt (w : World) (S : Own) (p : Nat) (m : HM) (vo vf : Value) (os : List Value) (bh bm gm bs : Nat) (st : List Bool × List Nat) (vs : Value) : Prop where
  ok : m.Ok
  inn : HeapIn w S p m vo vf os
  hv : VarAt w S bh 26 #[.pointer (some ⟨p, 0, none⟩)]
  mv : VarAt w S bm 55 #[.slice (some ⟨gm, 0, none⟩) st.1.length st.1.length]
  mr : VarAt w S gm 4 (st.1.map Value.bool).toArray
  len : st.1.length = m.objs.length
  sv : VarAt w S bs 64 #[vs]
  sr : w.ownsRow 0 86 1 vs st.2.length (st.2.map fun i => os.getD i .nilIface)
  so : ∀ g, vs.ownBlock = some g → S g = none ∧ vo.ownBlock ≠ some g
  many : st.2.length + (st.1.filter (fun x => !x)).length ≤ 70000
  live : ∀ i ∈ st.2, ∃ o, m.objs[i]? = some (some o)

theorem finds_os {w : World} {S : Own} {p : Nat} {m : HM} {vo vf : Value} {os : List Value} (hok : m.Ok) (hI : HeapIn w S p m vo vf os) (x : Wd) :
    (m.find x = none ∧ Finds w p x .nilIface) ∨ ∃ o T a, m.find x = some o ∧ 0 ≤ x.2 ∧ os[x.2.toNat]? = some (.iface T (.pointer (some a))) ∧ Finds w p x (.iface T (.pointer (some a))) := by
  cases he : m.find x with
  | none =>
    obtain ⟨V, h1, h2⟩ := finds_any ⟨hok, vo, vf, os, hI⟩ x
    rw [he] at h2
    have : V = .nilIface := h2
    subst this
    exact .inl ⟨rfl, h1⟩
  | some o =>
    obtain ⟨V, h1, h2, h3⟩ := finds_yes hok hI he
    have h0 := (HM.find_mem he).1
    refine .inr ?_
    cases o with
    | pair a d => obtain ⟨b, rfl, _⟩ := h2; exact ⟨_, _, _, rfl, h0, h1, h3⟩
    | text s => obtain ⟨b, rfl, _⟩ := h2; exact ⟨_, _, _, rfl, h0, h1, h3⟩
    | vec l => obtain ⟨b, r, rfl, _⟩ := h2; exact ⟨_, _, _, rfl, h0, h1, h3⟩
    | code a1 a2 a3 bs cs => obtain ⟨b, r, q, rfl, _⟩ := h2; exact ⟨_, _, _, rfl, h0, h1, h3⟩

/-- Which blocks the closure may turn. -/
def Own.mark (gm bs : Nat) (vs : Value) : Own := fun x => if x = gm ∨ x = bs ∨ vs.ownBlock = some x then some 0 else none
theorem Blk.ne {w : World} {g g' : Nat} {t t' : TypeId} {cs cs' : Array Value} (h : Blk w g t cs) (h' : Blk w g' t' cs') (hne : t ≠ t') : g ≠ g' := fun e => by
  subst e
  have h2 : w.heap[g]? = _ := h'
  have h1 : w.heap[g]? = _ := h
  rw [h1] at h2
  injection h2 with h2
  injection h2 with _ h2
  exact hne h2
theorem own_ne {w : World} {base : Nat} {e t : TypeId} {size n : Nat} {v : Value} {xs : List Value} {g : Nat} {cs : Array Value} (h : w.ownsRow base e size v n xs) (hg : Blk w g t cs) (hne : e ≠ t) : v.ownBlock ≠ some g := fun he => by
  rcases h.2 with ⟨rfl, _⟩ | ⟨g', cap, cur, rfl, _, hh, _⟩
  · simp [Value.ownBlock] at he
  · have : g' = g := by simpa [Value.ownBlock] using he
    subst this
    exact Blk.ne (t := e) hh hg hne rfl
theorem Own.mark_none {gm bs b : Nat} {vs : Value} (h1 : b ≠ gm) (h2 : b ≠ bs) (h3 : vs.ownBlock ≠ some b) : Own.mark gm bs vs b = none := by simp [Own.mark, h1, h2, h3]
/-- What stands while the closure runs. -/
theorem MarkAt.below {w w' : World} {S : Own} {p : Nat} {m : HM} {vo vf : Value} {os : List Value} {bh bm gm bs : Nat} {st : List Bool × List Nat} {vs : Value} (h : MarkAt w S p m vo vf os bh bm gm bs st vs) (hb : Below w.heap.size w w') : MarkAt w' S p m vo vf os bh bm gm bs st vs :=
  ⟨h.ok, h.inn.keep hb.size fun b hS => hb.block b (h.inn.lt b hS), h.hv.below hb, h.mv.below hb, h.mr.below hb, h.len, h.sv.below hb, owns_later h.sr hb, h.so, h.many, h.live⟩

theorem find_live {m : HM} {x : Wd} {o : HObj} (h : m.find x = some o) : m.objs[x.2.toNat]? = some (some o) := (HM.find_mem h).2.1
theorem filter_false (l : List Bool) (j : Nat) (h : l[j]? = some false) : ((l.set j true).filter (fun x => !x)).length + 1 = (l.filter (fun x => !x)).length := by
  induction l generalizing j with
  | nil => simp at h
  | cons a l ih =>
    cases j with
    | zero => simp at h; subst h; simp
    | succ j =>
      have := ih j (by simpa using h)
      simp only [List.set_cons_succ, List.filter_cons]
      split <;> (try simp only [List.length_cons]) <;> omega
/-- One object more is marked and stacked. -/
theorem MarkAt.stacked {w w2 w4 : World} {S : Own} {p : Nat} {m : HM} {vo vf : Value} {os : List Value} {bh bm gm bs : Nat} {sz : List Bool × List Nat} {vs v2 : Value} {j : Nat} {V : Value} {o : Obj} (h : MarkAt w S p m vo vf os bh bm gm bs sz vs)
    (hb : Below w.heap.size w w2) (hj : sz.1[j]? = some false) (hos : os[j]? = some V) (hlv : ∃ o, m.objs[j]? = some (some o)) (hown : w4.ownsRow 0 86 1 v2 (sz.2.length + 1) (sz.2.map (fun i => os.getD i .nilIface) ++ [V]))
    (hg : ((w2.setCell ⟨gm, j, none⟩ (.bool true)).alloc o).grownBy w4 vs.ownBlock) (hat : v2.ownBlock = vs.ownBlock ∨ v2.ownBlock = some ((w2.setCell ⟨gm, j, none⟩ (.bool true)).alloc o).heap.size) :
    MarkAt (w4.setCell ⟨bs, 0, none⟩ v2) S p m vo vf os bh bm gm bs (sz.1.set j true, sz.2 ++ [j]) v2 ∧ Turn (Own.mark gm bs vs) w (w4.setCell ⟨bs, 0, none⟩ v2) (Own.mark gm bs vs) ∧ (v2.ownBlock = vs.ownBlock ∨ ∃ g, v2.ownBlock = some g ∧ w.heap.size ≤ g) := by
  have ngs : gm ≠ bs := h.mr.blk.ne h.sv.blk (by decide)
  have ngm : gm ≠ bm := h.mr.blk.ne h.mv.blk (by decide)
  have ngh : gm ≠ bh := h.mr.blk.ne h.hv.blk (by decide)
  have nsm : bs ≠ bm := h.sv.blk.ne h.mv.blk (by decide)
  have nsh : bs ≠ bh := h.sv.blk.ne h.hv.blk (by decide)
  have vg := own_ne h.sr h.mr.blk (by decide)
  have vb := own_ne h.sr h.sv.blk (by decide)
  have vm := own_ne h.sr h.mv.blk (by decide)
  have vh := own_ne h.sr h.hv.blk (by decide)
  have hsz : ((w2.setCell ⟨gm, j, none⟩ (.bool true)).alloc o).heap.size = w2.heap.size + 1 := by simp [World.setCell]
  have hwz := hb.size
  have TT : Turn (Own.mark gm bs vs) w (w4.setCell ⟨bs, 0, none⟩ v2) (Own.mark gm bs vs) :=
    ((((Turn.of_below hb).setCell (p := ⟨gm, j, none⟩) (by simp [Own.mark]) _).alloc o).grown hg (fun g hg' => by simp [Own.mark, hg'])).setCell (p := ⟨bs, 0, none⟩) (by simp [Own.mark]) _
  have hv2 : v2.ownBlock = vs.ownBlock ∨ ∃ g, v2.ownBlock = some g ∧ w.heap.size ≤ g := by
    rcases hat with e | e
    · exact .inl e
    · exact .inr ⟨_, e, by rw [hsz]; omega⟩
  have hv2b : ∀ g, v2.ownBlock = some g → g ≠ bs := fun g hg' e => by
    subst e
    rcases hv2 with e1 | ⟨g2, e1, e2⟩
    · exact vb (e1 ▸ hg')
    · rw [e1] at hg'; cases hg'; have := h.sv.blk.lt; omega
  have hSn : ∀ b, S b ≠ none → Own.mark gm bs vs b = none := fun b hS => Own.mark_none (fun e => hS (by rw [e]; exact h.mr.out)) (fun e => hS (by rw [e]; exact h.sv.out)) (fun e => hS (h.so b e).1)
  refine ⟨?_, TT, hv2⟩
  have hgmr : Blk (w4.setCell ⟨bs, 0, none⟩ v2) gm 4 ((sz.1.set j true).map Value.bool).toArray := by
    have h1 := ((h.mr.blk.below hb).set j (.bool true)).alloc o
    have h2 := h1.keep (hg.block gm (by rw [hsz]; have := h.mr.blk.lt; omega) (fun e => vg e.symm))
    have h3 := h2.far (p := ⟨bs, 0, none⟩) ngs v2
    simpa [List.map_set] using h3
  exact {
    ok := h.ok
    inn := h.inn.keep TT.size fun b hS => TT.block b (h.inn.lt b hS) (hSn b hS)
    hv := ⟨h.hv.blk.turn TT (Own.mark_none ngh.symm nsh.symm vh), h.hv.out⟩
    mv := by
      have := h.mv.blk.turn TT (Own.mark_none ngm.symm nsm.symm vm)
      refine ⟨?_, h.mv.out⟩
      simpa using this
    mr := ⟨hgmr, h.mr.out⟩
    len := by simpa using h.len
    sv := by
      have h1 := (((h.sv.blk.below hb).far (p := ⟨gm, j, none⟩) ngs.symm (.bool true)).alloc o).keep (hg.block bs (by rw [hsz]; have := h.sv.blk.lt; omega) (fun e => vb e.symm))
      have h2 := h1.set 0 v2
      exact ⟨by simpa using h2, h.sv.out⟩
    sr := by
      have h1 := owns_keep (w' := w4.setCell ⟨bs, 0, none⟩ v2) hown fun g hg' => Below.heap_setCell _ _ _ _ (hv2b g hg')
      have h2 : os.getD j .nilIface = V := by simp [List.getD_eq_getElem?_getD, hos]
      show World.ownsRow _ _ _ _ _ (sz.2 ++ [j]).length ((sz.2 ++ [j]).map fun i => os.getD i .nilIface)
      rw [List.map_append, List.length_append, List.map_singleton, h2]
      exact h1
    so := fun g hg' => by
      rcases hv2 with e | ⟨g2, e, hle⟩
      · exact h.so g (e ▸ hg')
      · rw [e] at hg'; cases hg'
        exact ⟨own_none h.inn hle, fun e2 => by have := (h.inn.row.lt g e2).2; omega⟩
    many := by
      have := h.many
      have := filter_false sz.1 j hj
      simp only [List.length_append, List.length_singleton]
      omega
    live := fun i hi => by
      rcases List.mem_append.1 hi with hi | hi
      · exact h.live i hi
      · simp at hi; subst hi; exact hlv }
set_option maxHeartbeats 2000000 in
theorem mark_any (S : Own) (p : Nat) (m : HM) (vo vf : Value) (os : List Value) (bh bm gm bs : Nat) (ab ao n c : Nat) (l : List Wd) (st : List Bool × List Nat) (vs : Value) (w : World) (hM : MarkAt w S p m vo vf os bh bm gm bs st vs)
    (hn : l.length = n) (hn2 : n ≤ 2000000) (hw : WordsFrom w ab ao l) (hab : Own.mark gm bs vs ab = none) (hal : ab < w.heap.size) :
    Calls Tryd.prog 47 #[.slice (some ⟨ab, ao, none⟩) n c, .pointer (some ⟨bh, 0, none⟩), .pointer (some ⟨bm, 0, none⟩), .pointer (some ⟨bs, 0, none⟩)] w fun e w' => e = .returned (.tuple #[]) ∧ ∃ vs2, MarkAt w' S p m vo vf os bh bm gm bs (markL m st l) vs2 ∧ Turn (Own.mark gm bs vs) w w' (Own.mark gm bs vs) ∧ (vs2.ownBlock = vs.ownBlock ∨ ∃ g, vs2.ownBlock = some g ∧ w.heap.size ≤ g) := by
  obtain ⟨i0, hi, hz0, hz1, hz2⟩ := info_parts info_obj
  have HM := Lib.hid hM
  have HN := Lib.hid hn
  have HW := Lib.hid hw
  have HAB := Lib.hid hab
  clear hM hn hw hab
  go_enter Tryd.func47, Tryd.ntmps47
  go_wp2
  go_loopw [10] (fun q wr => ∃ (z : Nat) (vs2 : Value), z ≤ n ∧ q = .int .i64 z ∧ MarkAt wr S p m vo vf os bh bm gm bs (markL m st (l.take z)) vs2 ∧ Turn (Own.mark gm bs vs) w wr (Own.mark gm bs vs) ∧ (vs2.ownBlock = vs.ownBlock ∨ ∃ g, vs2.ownBlock = some g ∧ w.heap.size ≤ g)) (fun q _ => n - (intOf q).toNat)
  case atStart => exact ⟨0, vs, Nat.zero_le _, rfl, HM.out, Turn.refl _ _, .inl rfl⟩
  case round =>
    obtain ⟨z, vs2, hz, rfl, hMz, hTz, hvz⟩ := hrel
    by_cases hzn : z < n
    · obtain ⟨xk, xn, hx⟩ : ∃ xk xn, l[z]? = some (xk, xn) := ⟨_, _, List.getElem?_eq_getElem (by rw [HN.out]; exact hzn)⟩
      have hstep := markL_take (m := m) (st := st) hx
      generalize markL m st (l.take z) = sz at hMz hstep
      have WF : WordsFrom wr ab ao l := HW.out.keep (hTz.block ab hal HAB.out)
      obtain ⟨g0, g1⟩ := WF z _ hx
      simp only at g0 g1
      have lab : ab < wr.heap.size := Nat.lt_of_lt_of_le hal hTz.size
      have hh0 : wr.cell? ⟨bh, 0, none⟩ = some (.pointer (some ⟨p, 0, none⟩)) := hMz.hv.blk.cell 0
      have lbh := hMz.hv.blk.lt
      have z1 : (0 : Int) ≤ (z : Int) := by omega
      have z2 : (z : Int) < (n : Int) := by omega
      have AL := (Below.refl wr.heap.size wr).alloc (Nat.le_refl _) (.cells #[.int .i64 xk, .int .i64 xn] 24)
      rcases finds_os hMz.ok hMz.inn (xk, xn) with ⟨hf, hF⟩ | ⟨o, T, a, hf, hx0, hos, hF⟩
      · have CF := Lib.hid (hF _ AL)
        have HMz := Lib.hid hMz
        have HTz := Lib.hid hTz
        have HVz := Lib.hid hvz
        have HST : Hid (markL m st (l.take (z + 1)) = sz) := by
          show markL m st (l.take (z + 1)) = sz
          rw [hstep]
          simp [mark1, hf]
        have heq := neq_nil_nil
        clear hMz hTz hvz hstep hf hF WF hx AL
        go_wp2_with fail
        refine CF.out.mono ?_
        rintro e w2 ⟨rfl, hb2⟩
        have B2 : Below wr.heap.size wr w2 := ((Below.refl wr.heap.size wr).alloc (Nat.le_refl _) _).trans (hb2.mono (by simp))
        clear hb2
        go_wp2
        go_roundw
        case rel => exact ⟨z + 1, vs2, by omega, by go_num, by rw [HST.out]; exact HMz.out.below B2, HTz.out.trans (.of_below B2), HVz.out⟩
        case measure => simp [intOf]; omega
      · have hilt : xn.toNat < sz.1.length := by
          rw [hMz.len, ← hMz.inn.len]
          exact (List.getElem?_eq_some_iff.1 hos).1
        obtain ⟨j, hj⟩ : ∃ j : Nat, xn = (j : Int) := ⟨xn.toNat, by simp only at hx0; omega⟩
        subst hj
        simp only [Int.toNat_natCast] at hilt hos
        have CF := Lib.hid (hF _ AL)
        have m0 : wr.cell? ⟨bm, 0, none⟩ = some (.slice (some ⟨gm, 0, none⟩) sz.1.length sz.1.length) := hMz.mv.blk.cell 0
        have s0 : wr.cell? ⟨bs, 0, none⟩ = some vs2 := hMz.sv.blk.cell 0
        have lbm := hMz.mv.blk.lt
        have lgm := hMz.mr.blk.lt
        have lbs := hMz.sv.blk.lt
        have ngs : gm ≠ bs := hMz.mr.blk.ne hMz.sv.blk (by decide)
        have ngm : gm ≠ bm := hMz.mr.blk.ne hMz.mv.blk (by decide)
        have ngh : gm ≠ bh := hMz.mr.blk.ne hMz.hv.blk (by decide)
        have nsm : bs ≠ bm := hMz.sv.blk.ne hMz.mv.blk (by decide)
        have nsh : bs ≠ bh := hMz.sv.blk.ne hMz.hv.blk (by decide)
        have j1 : (0 : Int) ≤ (j : Int) := by omega
        have j2 : (j : Int) < (sz.1.length : Int) := by omega
        have heq := neq_nil_iface T (.pointer (some a))
        have HMz := Lib.hid hMz
        have HTz := Lib.hid hTz
        have HVz := Lib.hid hvz
        have HOS := Lib.hid hos
        cases hb : sz.1[j] with
        | true =>
          have m1 : wr.cell? ⟨gm, j, none⟩ = some (.bool true) := by
            rw [hMz.mr.blk.cell]
            simp [hilt, hb]
          have HST : Hid (markL m st (l.take (z + 1)) = sz) := by
            show markL m st (l.take (z + 1)) = sz
            rw [hstep]
            simp [mark1, hf, List.getElem?_eq_getElem hilt, hb]
          clear hMz hTz hvz hstep hf hF WF hx AL hos hb
          go_wp2_with fail
          refine CF.out.mono ?_
          rintro e w2 ⟨rfl, hb2⟩
          have B2 : Below wr.heap.size wr w2 := ((Below.refl wr.heap.size wr).alloc (Nat.le_refl _) _).trans (hb2.mono (by simp))
          have x1 : w2.cell? ⟨wr.heap.size, 1, none⟩ = some (.int .i64 (j : Int)) := ((Blk.new wr 24 #[.int .i64 xk, .int .i64 (j : Int)]).below hb2).cell 1
          have m0 := cell_later B2 m0
          have m1 := cell_later B2 m1
          clear hb2
          go_wp2
          go_roundw
          case rel => exact ⟨z + 1, vs2, by omega, by go_num, by rw [HST.out]; exact HMz.out.below B2, HTz.out.trans (.of_below B2), HVz.out⟩
          case measure => simp [intOf]; omega
        | false =>
          have m1 : wr.cell? ⟨gm, j, none⟩ = some (.bool false) := by
            rw [hMz.mr.blk.cell]
            simp [hilt, hb]
          have hbj : sz.1[j]? = some false := by rw [List.getElem?_eq_getElem hilt, hb]
          have HST : Hid (markL m st (l.take (z + 1)) = (sz.1.set j true, sz.2 ++ [j])) := by
            show markL m st (l.take (z + 1)) = _
            rw [hstep]
            simp [mark1, hf, hbj]
          have HBJ := Lib.hid hbj
          have HLV : Hid (∃ o, m.objs[j]? = some (some o)) := ⟨o, by have := find_live hf; simpa using this⟩
          have hmany := hMz.many
          have z0 := hMz.mr.blk.frozen j
          have y0 := hMz.sv.blk.frozen 0
          obtain ⟨A2, cv2, hvs2⟩ : ∃ A cv, vs2 = .slice A sz.2.length cv := by
            rcases hMz.sr.2 with ⟨h, h2⟩ | ⟨g, cap, cur, h, _⟩
            · exact ⟨none, 0, by rw [h, h2]⟩
            · exact ⟨_, _, h⟩
          subst hvs2
          clear hMz hTz hvz hstep hf hF WF hx AL hos hb hbj
          go_wp2_with fail
          refine CF.out.mono ?_
          rintro e w2 ⟨rfl, hb2⟩
          have B2 : Below wr.heap.size wr w2 := ((Below.refl wr.heap.size wr).alloc (Nat.le_refl _) _).trans (hb2.mono (by simp))
          have x1 : w2.cell? ⟨wr.heap.size, 1, none⟩ = some (.int .i64 (j : Int)) := ((Blk.new wr 24 #[.int .i64 xk, .int .i64 (j : Int)]).below hb2).cell 1
          have z0 := frozen_later B2 m1 z0
          have y0 := frozen_later B2 s0 y0
          have m0 := cell_later B2 m0
          have m1 := cell_later B2 m1
          have s0 := cell_later B2 s0
          have ngw : gm ≠ wr.heap.size := by omega
          have hws := B2.size
          have HO3 : Hid ((w2.setCell ⟨gm, j, none⟩ (.bool true)).ownsRow 0 86 1 (.slice A2 sz.2.length cv2) sz.2.length (sz.2.map fun i => os.getD i .nilIface)) :=
            owns_keep (owns_later HMz.out.sr B2) fun g hg => Below.heap_setCell _ _ _ _ (fun e => by have := own_ne HMz.out.sr HMz.out.mr.blk (by decide); exact this (by rw [hg]; exact congrArg some e))
          have HB2 := Lib.hid B2
          have HNW : Hid (Reads ((w2.setCell ⟨gm, j, none⟩ (.bool true)).alloc (.cells #[.iface T (.pointer (some a))] 86)) (w2.heap.size + 1) 1 (some ⟨w2.heap.size, 0, none⟩) 1 [.iface T (.pointer (some a))]) :=
            ⟨rfl, fun _ => ⟨⟨w2.heap.size, 0, none⟩, rfl, Nat.lt_succ_self _, fun j' u hu => by have := cell_one_new (w2.setCell ⟨gm, j, none⟩ (.bool true)) (.iface T (.pointer (some a))) 86 j' u hu; simpa [World.setCell] using this⟩⟩
          clear hb2
          go_wp2_with (at_builtin; refine (wpList_append_any _ rfl (.tmp 31) (.tmp 33) _ rfl 0 86 i0 _ 1 16 Tryd.underlying64 hi hz0 hz1 hz2 rfl (by omega) (.slice A2 sz.2.length cv2) sz.2.length (sz.2.map fun i => os.getD i .nilIface) rfl (HO3.out.alloc _) (w2.heap.size + 1) (some ⟨w2.heap.size, 0, none⟩) 1 1 [.iface T (.pointer (some a))] rfl HNW.out (fun u hu => by simp at hu; subst hu; rfl) (by simp only [maxLen]; omega) (by omega) (Nat.zero_le _) ?_); intro v4 w4 hown4 hgrow4 hat4; refine Hid.out ?_)
          refine Lib.hid ?_
          obtain ⟨hN, hTn, hvn⟩ := HMz.out.stacked HB2.out HBJ.out HOS.out HLV.out hown4 hgrow4 hat4
          have hvb := own_ne HMz.out.sr HMz.out.sv.blk (by decide)
          have SB : Blk w4 bs 64 #[.slice A2 sz.2.length cv2] := (((HMz.out.sv.blk.below HB2.out).far (p := ⟨gm, j, none⟩) ngs.symm (.bool true)).alloc _).keep (hgrow4.block bs (by simp [World.setCell]; omega) (fun e => hvb e.symm))
          have s4 : w4.cell? ⟨bs, 0, none⟩ = some (.slice A2 sz.2.length cv2) := SB.cell 0
          have y4 : w4.frozen? ⟨bs, 0, none⟩ = false := SB.frozen 0
          clear SB hvb
          obtain ⟨a4, n4, c4, hv4⟩ : ∃ a n c, v4 = .slice a n c := by rcases hown4.2 with ⟨h, _⟩ | ⟨g, cap, cur, h, _⟩ <;> exact ⟨_, _, _, h⟩
          subst hv4
          have HR := Lib.hid (And.intro hN (And.intro hTn hvn))
          clear hown4 hgrow4 hat4 hN hTn hvn m0 m1 s0 z0 y0 x1
          go_wp2
          go_roundw
          case rel =>
            obtain ⟨hN, hTn, hvn⟩ := HR.out
            have hwz := HTz.out.size
            refine ⟨z + 1, .slice a4 n4 c4, by omega, by go_num, by rw [HST.out]; exact hN, ?_, ?_⟩
            · refine ⟨hTn.os.trans HTz.out.os, hTn.tape.trans HTz.out.tape, hTn.output.trans HTz.out.output, Nat.le_trans hwz hTn.size, fun b hb hs => ?_, fun _ _ hs => hs⟩
              refine (hTn.block b (by omega) ?_).trans (HTz.out.block b hb hs)
              have hs' : b ≠ gm ∧ b ≠ bs ∧ vs.ownBlock ≠ some b := by
                refine ⟨fun e => ?_, fun e => ?_, fun e => ?_⟩ <;> simp [Own.mark, e] at hs
              refine Own.mark_none hs'.1 hs'.2.1 (fun e => ?_)
              rcases HVz.out with e1 | ⟨g, e1, e2⟩
              · exact hs'.2.2 (e1 ▸ e)
              · rw [e1] at e; cases e; omega
            · rcases hvn with e | ⟨g, e, e2⟩
              · rcases HVz.out with e1 | ⟨g, e1, e2⟩
                · exact .inl (e.trans e1)
                · exact .inr ⟨g, e.trans e1, e2⟩
              · exact .inr ⟨g, e, by omega⟩
          case measure => simp [intOf]; omega
    · obtain rfl : z = n := by omega
      have H := Lib.hid (And.intro hMz (And.intro hTz hvz))
      have hfin : l.take z = l := List.take_of_length_le (by rw [HN.out]; exact Nat.le_refl _)
      have HF := Lib.hid hfin
      clear hMz hTz hvz hfin
      go_wp2
      go_end0
      obtain ⟨h1, h2, h3⟩ := H.out
      rw [HF.out] at h1
      exact ⟨rfl, vs2, h1, h2, h3⟩
theorem mark_nil (A : Option Addr) (c bh bm bs : Nat) (w : World) :
    Calls Tryd.prog 47 #[.slice A 0 c, .pointer (some ⟨bh, 0, none⟩), .pointer (some ⟨bm, 0, none⟩), .pointer (some ⟨bs, 0, none⟩)] w fun e w' => e = .returned (.tuple #[]) ∧ w = w' := by
  go_enter Tryd.func47, Tryd.ntmps47
  go_wp2
  refine wp_loop_rounds 1 ?_
  rw [rounds_succ]
  go_wp2
  go_end0
  exact ⟨rfl, rfl⟩
/-- What the closure leaves. -/
def Marked (S : Own) (p : Nat) (m : HM) (vo vf : Value) (os : List Value) (bh bm gm bs : Nat) (st : List Bool × List Nat) (vs : Value) (w : World) (e : Ending) (w' : World) : Prop :=
  e = .returned (.tuple #[]) ∧ ∃ vs2, MarkAt w' S p m vo vf os bh bm gm bs st vs2 ∧ Turn (Own.mark gm bs vs) w w' (Own.mark gm bs vs) ∧ (vs2.ownBlock = vs.ownBlock ∨ ∃ g, vs2.ownBlock = some g ∧ w.heap.size ≤ g)
/-- The closure at whatever slice of words that lies beside its variables. -/
theorem mark_words (S : Own) (p : Nat) (m : HM) (vo vf : Value) (os : List Value) (bh bm gm bs : Nat) (A : Option Addr) (c : Nat) (l : List Wd) (st : List Bool × List Nat) (vs : Value) (w : World) (hM : MarkAt w S p m vo vf os bh bm gm bs st vs) (hn2 : l.length ≤ 2000000)
    (hA : 0 < l.length → ∃ ab ao, A = some ⟨ab, ao, none⟩ ∧ WordsFrom w ab ao l ∧ Own.mark gm bs vs ab = none ∧ ab < w.heap.size) :
    Calls Tryd.prog 47 #[.slice A l.length c, .pointer (some ⟨bh, 0, none⟩), .pointer (some ⟨bm, 0, none⟩), .pointer (some ⟨bs, 0, none⟩)] w (Marked S p m vo vf os bh bm gm bs (markL m st l) vs w) := by
  by_cases h0 : 0 < l.length
  · obtain ⟨ab, ao, rfl, h1, h2, h3⟩ := hA h0
    exact mark_any S p m vo vf os bh bm gm bs ab ao l.length c l st vs w hM rfl hn2 h1 h2 h3
  · have hl : l = [] := List.eq_nil_of_length_eq_zero (by omega)
    subst hl
    exact (mark_nil A c bh bm bs w).mono fun e w' ⟨he, hw⟩ => by subst hw; exact ⟨he, vs, hM, Turn.refl _ _, .inl rfl⟩

def HObj.kids : HObj → List Wd
  | .pair a d => [a, d]
  | .text _ => []
  | .vec l => l
  | .code _ _ _ _ cs => cs
/-- What is marked in the end. -/
inductive Marks (m : HM) : List Bool × List Nat → List Bool → Prop
  | done (M : List Bool) : Marks m (M, []) M
  | step (M M' : List Bool) (K : List Nat) (i : Nat) (o : HObj) (ho : m.objs[i]? = some (some o)) (h : Marks m (markL m (M, K) o.kids) M') : Marks m (M, K ++ [i]) M'
/-- How many objects are not marked. -/
def unm (M : List Bool) : Nat := (M.filter (fun x => !x)).length
theorem pot_mark1 (m : HM) (st : List Bool × List Nat) (x : Wd) : unm (mark1 m st x).1 + (mark1 m st x).2.length = unm st.1 + st.2.length := by
  unfold mark1
  split
  · split
    · rename_i h
      have := filter_false st.1 x.2.toNat h
      simp [unm] at this ⊢
      omega
    · rfl
  · rfl
theorem pot_markL (m : HM) (l : List Wd) : ∀ st, unm (markL m st l).1 + (markL m st l).2.length = unm st.1 + st.2.length := by
  induction l with
  | nil => intro st; rfl
  | cons x l ih =>
    intro st
    show unm (markL m (mark1 m st x) l).1 + (markL m (mark1 m st x) l).2.length = _
    rw [ih, pot_mark1]
/-- The top of the stack is taken. -/
theorem MarkAt.popped {w : World} {S : Own} {p : Nat} {m : HM} {vo vf : Value} {os : List Value} {bh bm gm bs : Nat} {M : List Bool} {K : List Nat} {i g cap : Nat} (h : MarkAt w S p m vo vf os bh bm gm bs (M, K ++ [i]) (.slice (some ⟨g, 0, none⟩) (K.length + 1) cap)) :
    MarkAt (w.setCell ⟨bs, 0, none⟩ (.slice (some ⟨g, 0, none⟩) K.length cap)) S p m vo vf os bh bm gm bs (M, K) (.slice (some ⟨g, 0, none⟩) K.length cap) := by
  have ngs : gm ≠ bs := h.mr.blk.ne h.sv.blk (by decide)
  have nsm : bs ≠ bm := h.sv.blk.ne h.mv.blk (by decide)
  have nsh : bs ≠ bh := h.sv.blk.ne h.hv.blk (by decide)
  have vb := own_ne h.sr h.sv.blk (by decide)
  have hgb : g ≠ bs := fun e => vb (by rw [e]; rfl)
  exact {
    ok := h.ok
    inn := h.inn.keep (by simp [World.setCell]) fun b hS => Below.heap_setCell _ _ _ _ (fun e => hS (by rw [e]; exact h.sv.out))
    hv := h.hv.store nsh.symm 0 _
    mv := h.mv.store nsm.symm 0 _
    mr := h.mr.store ngs 0 _
    len := h.len
    sv := by have := h.sv.set 0 (.slice (some ⟨g, 0, none⟩) K.length cap); simpa using this
    sr := by
      have hsr := h.sr
      simp only [List.length_append, List.length_singleton] at hsr
      obtain ⟨h1, h2⟩ := hsr
      refine ⟨by simp, .inr ?_⟩
      rcases h2 with ⟨h3, _⟩ | ⟨g', cap', cur, h3, h4, h5, h6, h7, h8, h9⟩
      · cases h3
      · cases h3
        refine ⟨g, cap, cur, rfl, h4, (Below.heap_setCell _ _ _ _ hgb).trans h5, by show K.length ≤ cap; omega, h7, h8, ?_⟩
        have := congrArg (List.take K.length) h9
        simpa [List.take_take, Nat.min_eq_left] using this
    so := fun g' hg' => h.so g' (by simpa [Value.ownBlock] using hg')
    many := by have := h.many; simp at this ⊢; omega
    live := fun k hk => h.live k (by simp [hk]) }
theorem MarkAt.top {w : World} {S : Own} {p : Nat} {m : HM} {vo vf : Value} {os : List Value} {bh bm gm bs : Nat} {M : List Bool} {K : List Nat} {i : Nat} {vs : Value} (h : MarkAt w S p m vo vf os bh bm gm bs (M, K ++ [i]) vs) :
    ∃ g cap V o, vs = .slice (some ⟨g, 0, none⟩) (K.length + 1) cap ∧ w.cell? ⟨g, K.length, none⟩ = some V ∧ m.objs[i]? = some (some o) ∧ ObjAt w S (i + 3) V o := by
  obtain ⟨o, ho⟩ := h.live i (by simp)
  have hil : i < os.length := by rw [h.inn.len]; exact (List.getElem?_eq_some_iff.1 ho).1
  have hV : os[i]? = some os[i] := List.getElem?_eq_getElem hil
  have hsr := h.sr
  simp only [List.length_append, List.length_singleton, List.map_append, List.map_singleton] at hsr
  obtain ⟨g, cap, hv, _, _⟩ := hsr.form (by omega)
  subst hv
  have hc := hsr.cells (g := g) rfl K.length os[i] (by
    rw [List.getElem?_append_right (by simp)]
    simp [hV])
  have hadd : (⟨g, 0, none⟩ : Addr).add K.length = ⟨g, K.length, none⟩ := by unfold Addr.add; split <;> simp_all
  rw [hadd] at hc
  exact ⟨g, cap, os[i], o, rfl, hc, ho, h.inn.objs i _ _ hV ho⟩
/-- Before anything is marked. -/
theorem MarkAt.start {w : World} {S : Own} {p : Nat} {m : HM} {vo vf : Value} {os : List Value} (hok : m.Ok) (hI : HeapIn w S p m vo vf os) :
    MarkAt ((((w.alloc (.cells #[.pointer (some ⟨p, 0, none⟩)] 26)).alloc (.cells ((List.replicate os.length false).map Value.bool).toArray 4)).alloc (.cells #[.slice (some ⟨w.heap.size + 1, 0, none⟩) os.length os.length] 55)).alloc (.cells #[.slice none 0 0] 64))
      S p m vo vf os w.heap.size (w.heap.size + 1 + 1) (w.heap.size + 1) (w.heap.size + 1 + 1 + 1) (List.replicate os.length false, []) (.slice none 0 0) := by
  have hb : Below w.heap.size w ((((w.alloc (.cells #[.pointer (some ⟨p, 0, none⟩)] 26)).alloc (.cells ((List.replicate os.length false).map Value.bool).toArray 4)).alloc (.cells #[.slice (some ⟨w.heap.size + 1, 0, none⟩) os.length os.length] 55)).alloc (.cells #[.slice none 0 0] 64)) :=
    ((((Below.refl _ _).alloc (Nat.le_refl _) _).alloc (by simp) _).alloc (by simp; omega) _).alloc (by simp; omega) _
  have hlen := hok.len
  have hhi := hok.hi
  exact {
    ok := hok
    inn := hI.keep hb.size fun b hS => hb.block b (hI.lt b hS)
    hv := ⟨(((Blk.new w _ _).alloc _).alloc _).alloc _, own_none hI (Nat.le_refl _)⟩
    mv := by
      refine ⟨?_, own_none hI (by omega)⟩
      have := (Blk.new ((w.alloc (.cells #[.pointer (some ⟨p, 0, none⟩)] 26)).alloc (.cells ((List.replicate os.length false).map Value.bool).toArray 4)) 55 #[.slice (some ⟨w.heap.size + 1, 0, none⟩) os.length os.length]).alloc (.cells #[.slice none 0 0] 64)
      simpa using this
    mr := by
      refine ⟨?_, own_none hI (by omega)⟩
      have := ((Blk.new (w.alloc (.cells #[.pointer (some ⟨p, 0, none⟩)] 26)) 4 ((List.replicate os.length false).map Value.bool).toArray).alloc (.cells #[.slice (some ⟨w.heap.size + 1, 0, none⟩) os.length os.length] 55)).alloc (.cells #[.slice none 0 0] 64)
      simpa using this
    len := by simpa using hI.len
    sv := by
      refine ⟨?_, own_none hI (by omega)⟩
      have := Blk.new (((w.alloc (.cells #[.pointer (some ⟨p, 0, none⟩)] 26)).alloc (.cells ((List.replicate os.length false).map Value.bool).toArray 4)).alloc (.cells #[.slice (some ⟨w.heap.size + 1, 0, none⟩) os.length os.length] 55)) 64 #[.slice none 0 0]
      simpa using this
    sr := World.ownsRow_nil _ _ _ _
    so := fun g hg => by simp [Value.ownBlock] at hg
    many := by
      have := hI.len
      have h1 : ((List.replicate os.length false).filter (fun x => !x)).length ≤ os.length := Nat.le_trans (List.length_filter_le _ _) (by simp)
      simp only [List.length_nil]
      omega
    live := fun i hi => by simp at hi }
theorem row_words {w : World} {S : Own} {k : Nat} {v : Value} {l : List Wd} (h : RowOf w S k 24 2 v l.length (wdC l)) : ∃ A c, v = .slice A l.length c ∧ (0 < l.length → ∃ g, A = some ⟨g, 0, none⟩ ∧ S g = some k ∧ WordsFrom w g 0 l ∧ g < w.heap.size) := by
  rcases h.1.2 with ⟨h1, h2⟩ | ⟨g, cap, cur, h1, _, h3, _⟩
  · exact ⟨none, 0, by rw [h1, h2], fun h0 => by omega⟩
  · refine ⟨some ⟨g, 0, none⟩, cap, h1, fun _ => ⟨g, rfl, h.2 g (by rw [h1]; rfl), fun j y hj => ?_, lt_of_block h3⟩⟩
    have hlt := (List.getElem?_eq_some_iff.1 hj).1
    obtain ⟨q0, q1⟩ := wdC_get l j hlt
    have hy : l[j] = y := Option.some.inj ((List.getElem?_eq_getElem hlt).symm.trans hj)
    rw [hy] at q0 q1
    have z0 := h.1.cells (g := g) (by rw [h1]; rfl) _ _ q0
    have z1 := h.1.cells (g := g) (by rw [h1]; rfl) _ _ q1
    rw [add_none] at z0 z1
    exact ⟨z0, z1⟩
/-- A block that the heap owns is none of the closure's. -/
theorem MarkAt.owned {w : World} {S : Own} {p : Nat} {m : HM} {vo vf : Value} {os : List Value} {bh bm gm bs : Nat} {st : List Bool × List Nat} {vs : Value} (h : MarkAt w S p m vo vf os bh bm gm bs st vs) {b : Nat} (hb : S b ≠ none) : Own.mark gm bs vs b = none :=
  Own.mark_none (fun e => hb (by rw [e]; exact h.mr.out)) (fun e => hb (by rw [e]; exact h.sv.out)) (fun e => hb (h.so b e).1)
theorem Marks.back {m : HM} {M : List Bool} {K : List Nat} {i : Nat} {o : HObj} {st0 : List Bool × List Nat} (ho : m.objs[i]? = some (some o)) (h : ∀ M', Marks m (M, K ++ [i]) M' → Marks m st0 M') : ∀ M', Marks m (markL m (M, K) o.kids) M' → Marks m st0 M' :=
  fun M' hM => h M' (.step M M' K i o ho hM)
/-- The loop's relation: n rounds at most are to come. -/
def Round (w : World) (S : Own) (p : Nat) (m : HM) (vo vf : Value) (os : List Value) (st0 : List Bool × List Nat) (n : Nat) (wr : World) : Prop :=
  ∃ st vs, n = unm st.1 + st.2.length ∧ MarkAt wr S p m vo vf os w.heap.size (w.heap.size + 1 + 1) (w.heap.size + 1) (w.heap.size + 1 + 1 + 1) st vs ∧ Below w.heap.size w wr ∧ (∀ g, vs.ownBlock = some g → w.heap.size ≤ g) ∧ ∀ M', Marks m st M' → Marks m st0 M'
/-- A round that ends in a call of the closure. -/
theorem Round.next {w w1 w2 : World} {S : Own} {p : Nat} {m : HM} {vo vf : Value} {os : List Value} {st0 : List Bool × List Nat} {M : List Bool} {K : List Nat} {i : Nat} {o : HObj} {vs : Value} {e : Ending}
    (hB : Below w.heap.size w w1) (hg : ∀ g, vs.ownBlock = some g → w.heap.size ≤ g) (ho : m.objs[i]? = some (some o)) (hI : ∀ M', Marks m (M, K ++ [i]) M' → Marks m st0 M')
    (h : Marked S p m vo vf os w.heap.size (w.heap.size + 1 + 1) (w.heap.size + 1) (w.heap.size + 1 + 1 + 1) (markL m (M, K) o.kids) vs w1 e w2) : Round w S p m vo vf os st0 (unm M + K.length) w2 := by
  obtain ⟨_, vs2, h1, h2, h3⟩ := h
  have hB2 : Below w.heap.size w w2 := hB.trans (h2.below hB.size fun b hb => Own.mark_none (by omega) (by omega) (fun e1 => by have := hg b e1; omega))
  refine ⟨_, vs2, ?_, h1, hB2, fun g hg' => ?_, Marks.back ho hI⟩
  · rw [pot_markL]
  · rcases h3 with e1 | ⟨g2, e1, e2⟩
    · exact hg g (e1 ▸ hg')
    · rw [e1] at hg'; cases hg'; exact Nat.le_trans hB.size e2
end Go.Proofs.YthmfiahmfdadgaaDoor
