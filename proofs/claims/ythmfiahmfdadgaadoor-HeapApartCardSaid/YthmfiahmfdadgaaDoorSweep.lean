/-
  The sweep of (*heap.Heap).Collect in plain words: which objects go, which numbers become free, what is used. No walk in this text. Conditions: none.
-/
import Derived.Test.YthmfiahmfdadgaaDoorMark
namespace Go.Proofs.YthmfiahmfdadgaaDoor
open Go.RowKit
set_option maxRecDepth 100000

/-- The object under the number i goes: it is live and not marked. -/
def goes (objs : List (Option HObj)) (M : List Bool) (i : Nat) : Bool := ((objs[i]?).join).isSome && M[i]? == some false
def sweptObjs (objs : List (Option HObj)) (M : List Bool) : Nat → List (Option HObj)
  | 0 => objs
  | z + 1 => if goes objs M z then (sweptObjs objs M z).set z none else sweptObjs objs M z
def sweptFree (objs : List (Option HObj)) (M : List Bool) : Nat → List Int
  | 0 => []
  | z + 1 => if goes objs M z then sweptFree objs M z ++ [(z : Int)] else sweptFree objs M z
def usedOf (objs : List (Option HObj)) : Nat := (objs.map optSize).sum
def manyOf (objs : List (Option HObj)) : Nat := (objs.filter Option.isSome).length

theorem swept_length (objs : List (Option HObj)) (M : List Bool) : ∀ z, (sweptObjs objs M z).length = objs.length
  | 0 => rfl
  | z + 1 => by
    unfold sweptObjs
    split
    · rw [List.length_set, swept_length objs M z]
    · exact swept_length objs M z
theorem swept_later (objs : List (Option HObj)) (M : List Bool) : ∀ z i, z ≤ i → (sweptObjs objs M z)[i]? = objs[i]?
  | 0, _, _ => rfl
  | z + 1, i, h => by
    unfold sweptObjs
    split
    · rw [List.getElem?_set_ne (by omega)]
      exact swept_later objs M z i (by omega)
    · exact swept_later objs M z i (by omega)
theorem swept_at (objs : List (Option HObj)) (M : List Bool) : ∀ z i, i < objs.length → (sweptObjs objs M z)[i]? = some (if i < z ∧ goes objs M i = true then none else (objs[i]?).join)
  | 0, i, hi => by simp [sweptObjs, List.getElem?_eq_getElem hi]
  | z + 1, i, hi => by
    have ih := swept_at objs M z i hi
    unfold sweptObjs
    by_cases hg : goes objs M z = true
    · rw [if_pos hg]
      by_cases e : z = i
      · subst e
        rw [List.getElem?_set_self (by rw [swept_length]; exact hi), if_pos ⟨by omega, hg⟩]
      · rw [List.getElem?_set_ne e, ih]
        by_cases h : i < z
        · simp [h, show i < z + 1 by omega]
        · have h2 : ¬ i < z + 1 := by omega
          simp [h, h2]
    · rw [if_neg hg, ih]
      by_cases h : i < z
      · simp [h, show i < z + 1 by omega]
      · by_cases e : i = z
        · subst e; simp [hg]
        · have h2 : ¬ i < z + 1 := by omega
          simp [h, h2]
theorem free_lt (objs : List (Option HObj)) (M : List Bool) : ∀ z x, x ∈ sweptFree objs M z → 0 ≤ x ∧ x < (z : Int)
  | 0, x, h => by simp [sweptFree] at h
  | z + 1, x, h => by
    unfold sweptFree at h
    split at h
    · rcases List.mem_append.1 h with h | h
      · have := free_lt objs M z x h; omega
      · simp at h; omega
    · have := free_lt objs M z x h; omega
theorem free_length (objs : List (Option HObj)) (M : List Bool) : ∀ z, (sweptFree objs M z).length ≤ z
  | 0 => by simp [sweptFree]
  | z + 1 => by
    have := free_length objs M z
    unfold sweptFree
    split
    · simp; omega
    · omega
theorem used_set_none (l : List (Option HObj)) (i : Nat) (o : HObj) (h : l[i]? = some (some o)) : usedOf (l.set i none) + o.size = usedOf l := by
  induction l generalizing i with
  | nil => simp at h
  | cons a l ih =>
    cases i with
    | zero => simp at h; subst h; simp [usedOf, optSize]; omega
    | succ i =>
      have := ih i (by simpa using h)
      simp [usedOf] at this ⊢
      omega
theorem many_set_none (l : List (Option HObj)) (i : Nat) (o : HObj) (h : l[i]? = some (some o)) : manyOf (l.set i none) + 1 = manyOf l := by
  induction l generalizing i with
  | nil => simp at h
  | cons a l ih =>
    cases i with
    | zero => simp at h; subst h; simp [manyOf]
    | succ i =>
      have := ih i (by simpa using h)
      simp only [manyOf, List.set_cons_succ, List.filter_cons] at this ⊢
      split <;> (try simp only [List.length_cons]) <;> omega
theorem goes_live {objs : List (Option HObj)} {M : List Bool} {z : Nat} (h : goes objs M z = true) : (∃ o, objs[z]? = some (some o)) ∧ M[z]? = some false := by
  unfold goes at h
  rw [Bool.and_eq_true] at h
  obtain ⟨h1, h2⟩ := h
  refine ⟨?_, by simpa using h2⟩
  cases e : objs[z]? with
  | none => rw [e] at h1; simp at h1
  | some o =>
    cases o with
    | none => rw [e] at h1; simp at h1
    | some o => exact ⟨o, rfl⟩
theorem swept_many (objs : List (Option HObj)) (M : List Bool) : ∀ z, manyOf (sweptObjs objs M z) + (sweptFree objs M z).length = manyOf objs
  | 0 => by simp [sweptObjs, sweptFree]
  | z + 1 => by
    have ih := swept_many objs M z
    unfold sweptObjs sweptFree
    by_cases hg : goes objs M z = true
    · obtain ⟨⟨o, ho⟩, _⟩ := goes_live hg
      have := many_set_none (sweptObjs objs M z) z o (by rw [swept_later objs M z z (Nat.le_refl _)]; exact ho)
      simp only [if_pos hg, List.length_append, List.length_singleton]
      omega
    · simp only [if_neg hg]
      exact ih
/-- A heap behind the sweep. -/
def HM.swept (m : HM) (M : List Bool) : HM := { m with objs := sweptObjs m.objs M m.objs.length, free := m.free ++ sweptFree m.objs M m.objs.length }
/-- How many objects go. -/
def HM.gone (m : HM) (M : List Bool) : Nat := (sweptFree m.objs M m.objs.length).length
theorem swept_used_le (objs : List (Option HObj)) (M : List Bool) : ∀ z, usedOf (sweptObjs objs M z) ≤ usedOf objs
  | 0 => Nat.le_refl _
  | z + 1 => by
    have ih := swept_used_le objs M z
    unfold sweptObjs
    by_cases hg : goes objs M z = true
    · obtain ⟨⟨o, ho⟩, _⟩ := goes_live hg
      have := used_set_none (sweptObjs objs M z) z o (by rw [swept_later objs M z z (Nat.le_refl _)]; exact ho)
      rw [if_pos hg]
      omega
    · rw [if_neg hg]; exact ih
theorem HM.Ok.swept {m : HM} (h : m.Ok) (M : List Bool) : (m.swept M).Ok where
  lo := h.lo
  hi := h.hi
  len := by show (sweptObjs _ _ _).length ≤ _; rw [swept_length]; exact h.len
  used := Nat.le_trans (swept_used_le m.objs M m.objs.length) h.used
  free := by
    have h1 := h.free
    have h2 := swept_many m.objs M m.objs.length
    show (m.free ++ sweptFree m.objs M m.objs.length).length + manyOf (sweptObjs m.objs M m.objs.length) = (sweptObjs m.objs M m.objs.length).length
    rw [swept_length, List.length_append]
    have h3 : manyOf m.objs = m.many := rfl
    omega
/-- A heap while it is swept: the numbers below z are done. -/
structure SweepAt (w : World) (S : Own) (p : Nat) (m : HM) (vo : Value) (os : List Value) (bh bm gm : Nat) (M : List Bool) (z : Nat) (vf : Value) : Prop where
  blk : Blk w p 67 #[.int .i64 m.limit, .int .i64 m.many, .int .i64 (usedOf (sweptObjs m.objs M z)), vo, vf]
  own : S p = some 0
  row : w.ownsRow 0 86 1 vo os.length os
  rowOwn : ∀ g, vo.ownBlock = some g → S g = some 1
  len : os.length = m.objs.length
  objs : ∀ i v o, os[i]? = some v → (sweptObjs m.objs M z)[i]? = some o → CellIs w S (i + 3) v o
  fre : w.ownsRow 0 3 1 vf (m.free ++ sweptFree m.objs M z).length ((m.free ++ sweptFree m.objs M z).map (Value.int .i64))
  freOwn : ∀ g, vf.ownBlock = some g → S g = some 2
  lt : ∀ b, S b ≠ none → b < w.heap.size
  hv : VarAt w S bh 26 #[.pointer (some ⟨p, 0, none⟩)]
  mv : VarAt w S bm 55 #[.slice (some ⟨gm, 0, none⟩) M.length M.length]
  mr : VarAt w S gm 4 (M.map Value.bool).toArray
  mlen : M.length = m.objs.length
theorem SweepAt.below {w w' : World} {S : Own} {p : Nat} {m : HM} {vo : Value} {os : List Value} {bh bm gm : Nat} {M : List Bool} {z : Nat} {vf : Value} (h : SweepAt w S p m vo os bh bm gm M z vf) (hb : Below w.heap.size w w') : SweepAt w' S p m vo os bh bm gm M z vf where
  blk := h.blk.below hb
  own := h.own
  row := owns_later h.row hb
  rowOwn := h.rowOwn
  len := h.len
  objs := fun i v o h1 h2 => (h.objs i v o h1 h2).keep fun b hS => ⟨hb.block b (h.lt b (by rw [hS]; simp)), hS⟩
  fre := owns_later h.fre hb
  freOwn := h.freOwn
  lt := fun b hS => Nat.lt_of_lt_of_le (h.lt b hS) hb.size
  hv := h.hv.below hb
  mv := h.mv.below hb
  mr := h.mr.below hb
  mlen := h.mlen
/-- Nothing goes under the number z. -/
theorem SweepAt.skip {w : World} {S : Own} {p : Nat} {m : HM} {vo : Value} {os : List Value} {bh bm gm : Nat} {M : List Bool} {z : Nat} {vf : Value} (h : SweepAt w S p m vo os bh bm gm M z vf) (hg : goes m.objs M z = false) : SweepAt w S p m vo os bh bm gm M (z + 1) vf := by
  have e1 : sweptObjs m.objs M (z + 1) = sweptObjs m.objs M z := by simp [sweptObjs, hg]
  have e2 : sweptFree m.objs M (z + 1) = sweptFree m.objs M z := by simp [sweptFree, hg]
  exact ⟨by rw [e1]; exact h.blk, h.own, h.row, h.rowOwn, h.len, by rw [e1]; exact h.objs, by rw [e2]; exact h.fre, h.freOwn, h.lt, h.hv, h.mv, h.mr, h.mlen⟩
/-- The row of the free numbers is u's. -/
def Own.freed (S : Own) (u : Value) : Own := fun x => if u.ownBlock = some x then some 2 else S x
/-- The object under the number z goes. -/
theorem SweepAt.step {w w2 w4 : World} {S : Own} {p : Nat} {m : HM} {vo : Value} {os : List Value} {bh bm gm : Nat} {M : List Bool} {z : Nat} {vf : Value} {g0 cap : Nat} {o : HObj} {e : Ending}
    (h : SweepAt w S p m vo os bh bm gm M z vf) (hg : goes m.objs M z = true) (ho : m.objs[z]? = some (some o)) (hvo : vo = .slice (some ⟨g0, 0, none⟩) os.length cap)
    (hb : Below w.heap.size (w.setCell ⟨g0, z, none⟩ .nilIface) w2)
    (hP : Pushed (w2.setCell ⟨p, 2, none⟩ (.int .i64 (usedOf (sweptObjs m.objs M (z + 1))))) p (.int .i64 m.limit) (.int .i64 m.many) (.int .i64 (usedOf (sweptObjs m.objs M (z + 1)))) vo vf (m.free ++ sweptFree m.objs M z) z e w4) :
    ∃ u S4, SweepAt w4 S4 p m vo (os.set z .nilIface) bh bm gm M (z + 1) u ∧ Turn S w w4 S4 := by
  obtain ⟨_, u, hfr, hat, hblk, ht⟩ := hP
  have e1 : sweptObjs m.objs M (z + 1) = (sweptObjs m.objs M z).set z none := by simp [sweptObjs, hg]
  have e2 : sweptFree m.objs M (z + 1) = sweptFree m.objs M z ++ [(z : Int)] := by simp [sweptFree, hg]
  have hSg0 : S g0 = some 1 := h.rowOwn g0 (by rw [hvo]; rfl)
  have hszw : (w.setCell ⟨g0, z, none⟩ .nilIface).heap.size = w.heap.size := by simp [World.setCell]
  have hsz2 : w.heap.size ≤ w2.heap.size := by have := hb.size; rw [hszw] at this; exact this
  have hsz3 : (w2.setCell ⟨p, 2, none⟩ (.int .i64 (usedOf (sweptObjs m.objs M (z + 1))))).heap.size = w2.heap.size := by simp [World.setCell]
  have hcore : ∀ b, S b ≠ some 0 → S b ≠ some 2 → Own.core p vf b = none := fun b h0 h2 => by
    have hn : ¬ (b = p ∨ vf.ownBlock = some b) := by
      rintro (e | e)
      · exact h0 (by rw [e]; exact h.own)
      · exact h2 (h.freOwn b e)
    simp [Own.core, hn]
  have hst : ∀ b, b < w.heap.size → S b ≠ some 0 → S b ≠ some 1 → S b ≠ some 2 → w4.heap[b]? = w.heap[b]? := fun b hlt h0 h1 h2 => by
    rw [ht.block b (by rw [hsz3]; omega) (hcore b h0 h2), Below.heap_setCell _ _ _ _ (fun e => h0 (by rw [e]; exact h.own)), hb.block b hlt, Below.heap_setCell _ _ _ _ (fun e => h1 (by rw [e]; exact hSg0))]
  have hu : ∀ g, u.ownBlock = some g → S g = some 2 ∨ w.heap.size ≤ g := fun g hg' => by
    rcases hat with e1 | ⟨g2, e1, e2⟩
    · exact .inl (h.freOwn g (e1 ▸ hg'))
    · rw [e1] at hg'; cases hg'; rw [hsz3] at e2; exact .inr (by omega)
  have hS4 : ∀ b k, S b = some k → k ≠ 2 → (S.freed u) b = some k := fun b k hk h2 => by
    have hn : ¬ u.ownBlock = some b := fun e => by
      rcases hu b e with h3 | h3
      · rw [hk] at h3; exact h2 (by simpa using h3)
      · have := h.lt b (by rw [hk]; simp); omega
    simp [Own.freed, hn, hk]
  have hS4n : ∀ b, b < w.heap.size → S b = none → (S.freed u) b = none := fun b hlt hn => by
    have hn' : ¬ u.ownBlock = some b := fun e => by
      rcases hu b e with h3 | h3
      · rw [hn] at h3; cases h3
      · omega
    simp [Own.freed, hn', hn]
  have hvar : ∀ {b : Nat} {t : TypeId} {cs : Array Value}, VarAt w S b t cs → VarAt w4 (S.freed u) b t cs := fun {b t cs} hv => ⟨hv.blk.keep (hst b hv.blk.lt (by rw [hv.out]; simp) (by rw [hv.out]; simp) (by rw [hv.out]; simp)), hS4n b hv.blk.lt hv.out⟩
  refine ⟨u, S.freed u, ?_, ?_⟩
  · exact {
      blk := hblk
      own := hS4 p 0 h.own (by omega)
      row := by
        have h1 : (w.setCell ⟨g0, z, none⟩ .nilIface).ownsRow 0 86 1 (.slice (some ⟨g0, 0, none⟩) os.length cap) os.length (os.set z .nilIface) := by
          have := (hvo ▸ h.row).stored (g := g0) z .nilIface
          exact this.1
        rw [List.length_set, hvo]
        refine owns_keep h1 fun g hg' => ?_
        have hgg : g = g0 := by simpa [Value.ownBlock] using hg'.symm
        subst hgg
        have hlt : g < w.heap.size := h.lt g (by rw [hSg0]; simp)
        rw [ht.block g (by rw [hsz3]; omega) (hcore g (by rw [hSg0]; simp) (by rw [hSg0]; simp)), Below.heap_setCell _ _ _ _ (fun e => by have e' : g = p := e; rw [e', h.own] at hSg0; cases hSg0)]
        exact hb.block g hlt
      rowOwn := fun g hg' => hS4 g 1 (h.rowOwn g hg') (by omega)
      len := by rw [List.length_set]; exact h.len
      objs := fun i v o' h1 h2 => by
        rw [e1] at h2
        by_cases ei : i = z
        · subst ei
          have hil : i < os.length := by have := (List.getElem?_eq_some_iff.1 h1).1; simpa using this
          rw [List.getElem?_set_self hil] at h1
          rw [List.getElem?_set_self (by rw [swept_length, ← h.len]; exact hil)] at h2
          cases h1; cases h2
          rfl
        · rw [List.getElem?_set_ne (Ne.symm ei)] at h1 h2
          exact (h.objs i v o' h1 h2).keep fun b hb' => ⟨hst b (h.lt b (by rw [hb']; simp)) (by rw [hb']; simp) (by rw [hb']; simp) (by rw [hb']; simp), hS4 b _ hb' (by omega)⟩
      fre := by rw [e2, ← List.append_assoc, List.length_append]; exact hfr
      freOwn := fun g hg' => by simp [Own.freed, hg']
      lt := fun b hb' => by
        by_cases h1 : u.ownBlock = some b
        · exact (hfr.lt b h1).2
        · have h2 : S b ≠ none := by simpa [Own.freed, h1] using hb'
          have := h.lt b h2
          have := ht.size
          rw [hsz3] at this
          omega
      hv := hvar h.hv
      mv := hvar h.mv
      mr := hvar h.mr
      mlen := h.mlen }
  · have hts := ht.size
    rw [hsz3] at hts
    refine ⟨ht.os.trans hb.os, ht.tape.trans hb.tape, ht.output.trans hb.output, by omega, fun b hlt hn => hst b hlt (by rw [hn]; simp) (by rw [hn]; simp) (by rw [hn]; simp), hS4n⟩
/-- Before the sweep. -/
theorem SweepAt.start {w : World} {S : Own} {p : Nat} {m : HM} {vo vf : Value} {os : List Value} {bh bm gm bs : Nat} {M : List Bool} {K : List Nat} {vs : Value} (h : MarkAt w S p m vo vf os bh bm gm bs (M, K) vs) : SweepAt w S p m vo os bh bm gm M 0 vf where
  blk := h.inn.blk
  own := h.inn.own
  row := h.inn.row
  rowOwn := h.inn.rowOwn
  len := h.inn.len
  objs := h.inn.objs
  fre := by have := h.inn.fre; simp only [sweptFree, List.append_nil]; exact this
  freOwn := h.inn.freOwn
  lt := h.inn.lt
  hv := h.hv
  mv := h.mv
  mr := h.mr
  mlen := h.len
theorem SweepAt.row0 {w : World} {S : Own} {p : Nat} {m : HM} {vo : Value} {os : List Value} {bh bm gm : Nat} {M : List Bool} {z : Nat} {vf : Value} (h : SweepAt w S p m vo os bh bm gm M z vf) (hz : z < os.length) :
    ∃ g0 cap v, vo = .slice (some ⟨g0, 0, none⟩) os.length cap ∧ os[z]? = some v ∧ w.cell? ⟨g0, z, none⟩ = some v ∧ w.frozen? ⟨g0, z, none⟩ = false ∧ CellIs w S (z + 3) v ((m.objs[z]?).join) := by
  obtain ⟨g0, cap, hv, _, _⟩ := h.row.form (by omega)
  have h1 := h.row
  rw [hv] at h1
  have hz' : z < m.objs.length := by rw [← h.len]; exact hz
  refine ⟨g0, cap, os[z], hv, List.getElem?_eq_getElem hz, ?_, h1.frozenAt z, ?_⟩
  · rw [h1.cellAt z (by omega)]; exact List.getElem?_eq_getElem hz
  · refine h.objs z _ _ (List.getElem?_eq_getElem hz) ?_
    rw [swept_later m.objs M z z (Nat.le_refl _), List.getElem?_eq_getElem hz']
    rfl
end Go.Proofs.YthmfiahmfdadgaaDoor
