/-
  HeapCollect in the second memory: what is left is counted, the heap is collected twice. Conditions: none.
-/
import Derived.Test.YthmfiahmfdadgaaDoorColC
namespace Go.Proofs.YthmfiahmfdadgaaDoor
set_option maxRecDepth 100000

theorem Sl.with_ {σ : Mem} {s : Nat} {v : Value} {xs : List Value} (h : Sl σ s v xs) (a : Abs) : Sl (σ.with a) s v xs := by
  cases h with
  | nil => exact .nil
  | some hr hx hc => exact .some hr hx hc
/-- Marking comes to an end. -/
theorem Marks.ex {m : HM} {l : List Wd} : ∀ (p : Nat) (st : List Bool × List Nat), unm st.1 + st.2.length = p → MarkInv m l st → ∃ M, Marks m st M := by
  intro p
  induction p with
  | zero =>
    rintro ⟨M, K⟩ h _
    have h' : unm M + K.length = 0 := h
    have : K.length = 0 := by omega
    obtain rfl := List.eq_nil_of_length_eq_zero this
    exact ⟨M, .done M⟩
  | succ p ih =>
    rintro ⟨M, K⟩ h hI
    rcases List.eq_nil_or_concat K with rfl | ⟨K', i, rfl⟩
    · exact ⟨M, .done M⟩
    · have hlive : ∃ o, m.objs[i]? = some (some o) := by
        have := hI.sound i (hI.stacked i (by simp))
        cases this with
        | root x o hx hf => exact ⟨o, find_live hf⟩
        | kid j o x o' _ _ _ hf => exact ⟨o', find_live hf⟩
      obtain ⟨o, ho⟩ := hlive
      rw [List.concat_eq_append] at h hI ⊢
      have hp := pot_markL m o.kids (M, K')
      obtain ⟨M', hM'⟩ := ih (markL m (M, K') o.kids) (by rw [hp]; simp at h ⊢; omega) (hI.step ho)
      exact ⟨M', .step M M' K' i o ho hM'⟩
theorem Marks.all (m : HM) (l : List Wd) : ∃ M, Marks m (markL m (List.replicate m.objs.length false, []) l) M := Marks.ex _ _ rfl (MarkInv.start m l)
theorem Marks.same {m : HM} {l : List Wd} {M M' : List Bool} (h : Marks m (markL m (List.replicate m.objs.length false, []) l) M) (h' : Marks m (markL m (List.replicate m.objs.length false, []) l) M') : M' = M := by
  obtain ⟨a1, a2⟩ := h.reach
  obtain ⟨b1, b2⟩ := h'.reach
  apply List.ext_getElem?
  intro i
  by_cases hi : i < m.objs.length
  · have e1 : M[i]? = some M[i] := List.getElem?_eq_getElem (by omega)
    have e2 : M'[i]? = some M'[i] := List.getElem?_eq_getElem (by omega)
    have hb := (b2 i).trans (a2 i).symm
    rw [e1, e2] at hb ⊢
    cases h1 : M[i] <;> cases h2 : M'[i] <;> simp_all
  · rw [List.getElem?_eq_none (by omega), List.getElem?_eq_none (by omega)]
theorem texts_pairs (L : Nat) (c d : Nat → Nat) (n : Nat) (F : List Int) : (⟨L, pairs c d n, F⟩ : HM).Texts := fun i s h => by
  obtain ⟨j, _, hj⟩ := List.mem_map.1 (List.mem_of_getElem? h)
  cases hj
theorem texts_swept {m : HM} {M : List Bool} (hl : M.length = m.objs.length) (h : m.Texts) : (m.swept M).Texts := fun i s hi => by
  have hlt : i < m.objs.length := by
    have := (List.getElem?_eq_some_iff.1 hi).1
    have e : (m.swept M).objs.length = m.objs.length := swept_length _ _ _
    omega
  rw [m.swept_get M hl i hlt] at hi
  split at hi
  · have hj : (m.objs[i]?).join = some (.text s) := by simpa using hi
    refine h i s ?_
    rw [List.getElem?_eq_getElem hlt] at hj ⊢
    simpa using hj
  · simp at hi
/-- What lies there behind the law's marking. -/
structure Fin5 (G : Nat) (σ0 σ : Mem) (m : HM) (met : List Bool) : Prop where
  abs : σ.abs = heapAbs σ0.next m
  old : ∀ b y, b < G → σ0.get b = some y → σ.get b = some y
  row : σ.get (σ0.next + 1) = some (.row ⟨met.map Value.bool, 4, false⟩)
  nx : σ0.next + 2 ≤ σ.next
theorem count_succ (met : List Bool) (k : Nat) (b : Bool) (h : met[k]? = some b) : ((met.take (k + 1)).filter id).length = ((met.take k).filter id).length + (if b then 1 else 0) := by
  rw [List.take_add_one, h]
  cases b <;> simp
theorem count_le (met : List Bool) (k : Nat) : ((met.take k).filter id).length ≤ k := Nat.le_trans (List.length_filter_le _ _) (by rw [List.length_take]; omega)

set_option maxHeartbeats 4000000 in
theorem st11 {G : Nat} {σ0 : Mem} {v1 v2 : Value} {l1 l2 l3 : List Int} (hG : G ≤ σ0.next) (a1 : ArgS G σ0 v1 l1) (a2 : ArgS G σ0 v2 l2) (h1 : l1.length ≤ 40) (h2 : l1.length ≤ l2.length) {ta : Nat → Value} {σ : Mem} {va vb : Value} {met : List Bool} (hM : Mid G σ0 σ (hm1 l1 l2 l1.length) met va [] vb (rts l3 l3.length)) (hL : LawInv (hm1 l1 l2 l1.length) (pk l1) (pk l2) l1.length (rts l3 l3.length) met []) (h3 : l3.length ≤ 40) (h16 : 16 ≤ G) (hR : RowsAt rowsU σ0) (e0 : ta 0 = v1) (e1 : ta 1 = v2) (e7 : ta 7 = .int .i64 l1.length) (e8 : ta 8 = .pointer (some ⟨σ0.next, 0, none⟩)) (e11 : ta 11 = .slice (some ⟨σ0.next + 1, 0, none⟩) 41 41) (e13 : ta 13 = vb)
    (next : ∀ ta' σ m2, Fin5 G σ0 σ m2 met → (∀ i : Nat, i < l1.length → m2.find (2, (i : Int)) = if met[i]? = some true then some (.pair (consW (pk l1 i)) (consW (pk l2 i))) else none) → ta' 0 = v1 → ta' 1 = v2 → ta' 7 = .int .i64 l1.length → ta' 8 = .pointer (some ⟨σ0.next, 0, none⟩) → ta' 11 = .slice (some ⟨σ0.next + 1, 0, none⟩) 41 41 → W G Tryd.prog none 223 (restN 14 (bodyOf Tryd.f5)) ta' [] σ (trueQ 6)) :
    W G Tryd.prog none 223 (restN 11 (bodyOf Tryd.f5)) ta [] σ (trueQ 6) := by
  have hmlen := hL.len
  obtain ⟨M, hMk⟩ := Marks.all (hm1 l1 l2 l1.length) ((rts l3 l3.length).map consW)
  have hMd := hL.done rfl (by omega) hMk
  have hMl := hMk.reach.1
  have hlenO : (hm1 l1 l2 l1.length).objs.length = l1.length := pairs_length _ _ _
  have hmany : (hm1 l1 l2 l1.length).many = l1.length := pairs_many _ _ _ _ _
  have hsw := (hm1 l1 l2 l1.length).many_swept M
  have hmm := many_marked hMl (fun i hi => ⟨_, pairs_get _ _ _ i (by omega)⟩)
  have hfind : ∀ i : Nat, i < l1.length → ((hm1 l1 l2 l1.length).swept M).find (2, (i : Int)) = if met[i]? = some true then some (.pair (consW (pk l1 i)) (consW (pk l2 i))) else none := fun i hi => by
    rw [HM.find_swept _ M hMl, hMd, List.getElem?_take, if_pos (show ((2, (i : Int)) : Wd).2.toNat < l1.length by simpa using hi)]
    have := pairs_find (m := hm1 l1 l2 l1.length) rfl i
    rw [if_pos hi] at this
    show (if met[((i : Int)).toNat]? = some true then (hm1 l1 l2 l1.length).find (consW i) else none) = _
    rw [this, Int.toNat_natCast]
  have hR' : RowsAt rowsU σ := fun g cs hm => by
    obtain ⟨t, gg, ht⟩ := hR g cs hm
    exact ⟨t, gg, hM.old g _ (Nat.lt_of_lt_of_le (rowsU_low g cs hm) h16) ht⟩
  have hT1 : (hm1 l1 l2 l1.length).Texts := texts_pairs _ _ _ _ _
  have C1 := s_collect (G := G) vb ((rts l3 l3.length).map consW) M hM.fm.sl hM.abs (fun M' h' => ⟨above_nil rfl M', hMk.same h'⟩) (by simp [rts_length]; omega) hR' h16 hT1
  obtain ⟨M2, hM2⟩ := Marks.all ((hm1 l1 l2 l1.length).swept M) ((rts l3 l3.length).map consW)
  obtain ⟨n1, n2⟩ := none_goes (swept_stays hMk hM2)
  have C2 := s_collect (G := G) (σ := σ.with (heapAbs σ0.next ((hm1 l1 l2 l1.length).swept M))) vb ((rts l3 l3.length).map consW) M2 (hM.fm.sl.with_ _) rfl (fun M' h' => ⟨above_none (swept_stays hMk h'), hM2.same h'⟩) (by simp [rts_length]; omega) hR' h16 (texts_swept hMl hT1)
  rw [n1, n2] at C2
  have hleft : ((met.take l1.length).filter id).length = ((hm1 l1 l2 l1.length).swept M).many := by rw [hmm, hMd]
  have hF : Fin5 G σ0 (σ.with (heapAbs σ0.next ((hm1 l1 l2 l1.length).swept M))) ((hm1 l1 l2 l1.length).swept M) met := ⟨rfl, hM.old, hM.row, hM.nx⟩
  have hmany2 := s_many (G := G) hF.abs
  rw [hmany] at hsw
  generalize hm2 : (hm1 l1 l2 l1.length).swept M = m2 at *
  generalize hg : (hm1 l1 l2 l1.length).gone M = gone at *
  have hgone : (gone : Int) = (l1.length : Int) - (((met.take l1.length).filter id).length : Nat) := by omega
  have hcle := count_le met l1.length
  refine W.know 0 e0 (W.know 1 e1 (W.know 7 e7 (W.know 8 e8 (W.know 11 e11 (W.know 13 e13 (?_))))))
  refine W.seq ?_
  refine W.region ?_
  refine RW.val (by kernel_rfl) (by kernel_rfl) rfl (by kernel_rfl) ?_
  refine RW.nil ?_
  refine W.seq ?_
  refine W.seq ?_
  refine W.region ?_
  refine RW.val (by kernel_rfl) (by kernel_rfl) rfl (by kernel_rfl) ?_
  refine RW.nil ?_
  refine W.block ?_
  refine W.loop (fun m ta σ' => ∃ k : Nat, m + k = l1.length ∧ σ' = σ ∧ ta 0 = v1 ∧ ta 1 = v2 ∧ ta 7 = .int .i64 l1.length ∧ ta 8 = .pointer (some ⟨σ0.next, 0, none⟩) ∧ ta 11 = .slice (some ⟨σ0.next + 1, 0, none⟩) 41 41 ∧ ta 13 = vb ∧ ta 17 = .int .i64 ((met.take k).filter id).length ∧ ta 18 = .int .i64 k) l1.length ?_ ?_
  · exact ⟨0, rfl, rfl, rfl, rfl, rfl, rfl, rfl, rfl, rfl, rfl⟩
  clear e0 e1 e7 e8 e11 e13
  rintro m ta σ' ⟨k, hm, rfl, e0, e1, e7, e8, e11, e13, e17, e18⟩
  refine W.know 0 e0 (W.know 1 e1 (W.know 7 e7 (W.know 8 e8 (W.know 11 e11 (W.know 13 e13 (W.know 17 e17 (W.know 18 e18 (?_))))))))
  refine W.seq ?_
  refine W.seq ?_
  refine W.region ?_
  refine RW.val (by kernel_rfl) (by kernel_rfl) rfl (by kernel_rfl) ?_
  refine RW.val (by kernel_rfl) (by kernel_rfl) rfl (by kernel_rfl) ?_
  refine RW.val (by kernel_rfl) (by kernel_rfl) rfl (by kernel_rfl) ?_
  refine RW.nil ?_
  refine W.cond rfl (fun h => ?_) (fun h => ?_)
  · have hk : k < l1.length := by have := of_decide_eq_true h; omega
    have hkm : k < met.length := by omega
    have hgm : met[k]? = some met[k] := List.getElem?_eq_getElem hkm
    generalize met[k] = bk at hgm
    have um : (met.map Value.bool)[0 + ((k : Nat) : Int).toNat * 1]? = some (.bool bk) := by
      simp [hgm]
    have hcs := count_succ met k bk hgm
    have hck := count_le met k
    refine W.skip ?_
    refine W.seq ?_
    refine W.block ?_
    refine W.seq ?_
    refine W.region ?_
    refine RW.val (by kernel_rfl) (by kernel_rfl) rfl (by kernel_rfl) ?_
    refine RW.val (by kernel_rfl) (by kernel_rfl) rfl (by kernel_rfl) ?_
    refine RW.idx (s := 1) (by kernel_rfl) (by kernel_rfl) rfl Tryd.underlying55 (by kernel_rfl) rfl rfl ⟨by omega, by omega⟩ (by kernel_rfl) ?_
    refine RW.load (by kernel_rfl) (by kernel_rfl) rfl rfl hM.row um rfl (by kernel_rfl) ?_
    refine RW.nil ?_
    refine W.cond (b := bk) rfl (fun hb => ?_) (fun hb => ?_)
    · subst hb
      refine W.region ?_
      refine RW.val (by kernel_rfl) (by kernel_rfl) rfl (by kernel_rfl) ?_
      refine RW.valE (v' := .int .i64 (((met.take (k + 1)).filter id).length : Nat)) (by kernel_rfl) (by kernel_rfl) rfl (congrArg (Value.int .i64) ((wrap_in (by omega) (by omega)).trans (by rw [hcs]; simp))) (by kernel_rfl) ?_
      refine RW.val (by kernel_rfl) (by kernel_rfl) rfl (by kernel_rfl) ?_
      refine RW.nil ?_
      refine W.region ?_
      refine RW.val (by kernel_rfl) (by kernel_rfl) rfl (by kernel_rfl) ?_
      refine RW.valE (by kernel_rfl) (by kernel_rfl) rfl (congrArg (Value.int .i64) (wrap_in (by omega) (by omega))) (by kernel_rfl) ?_
      refine RW.val (by kernel_rfl) (by kernel_rfl) rfl (by kernel_rfl) ?_
      refine RW.nil ?_
      exact ⟨rfl, m - 1, by omega, k + 1, by omega, rfl, rfl, rfl, rfl, rfl, rfl, rfl, rfl, rfl⟩
    · subst hb
      refine W.skip ?_
      refine W.region ?_
      refine RW.val (by kernel_rfl) (by kernel_rfl) rfl (by kernel_rfl) ?_
      refine RW.valE (by kernel_rfl) (by kernel_rfl) rfl (congrArg (Value.int .i64) (wrap_in (by omega) (by omega))) (by kernel_rfl) ?_
      refine RW.val (by kernel_rfl) (by kernel_rfl) rfl (by kernel_rfl) ?_
      refine RW.nil ?_
      exact ⟨rfl, m - 1, by omega, k + 1, by omega, rfl, rfl, rfl, rfl, rfl, rfl, rfl, by show Value.int .i64 _ = _; rw [hcs]; rfl, rfl⟩
  · have hk : k = l1.length := by have := of_decide_eq_false h; omega
    subst hk
    refine W.exit _ ?_
    refine W.seq ?_
    refine W.seq ?_
    refine W.region ?_
    refine RW.val (by kernel_rfl) (by kernel_rfl) rfl (by kernel_rfl) ?_
    refine RW.val (by kernel_rfl) (by kernel_rfl) rfl (by kernel_rfl) ?_
    refine RW.call (by kernel_rfl) (by kernel_rfl) rfl rfl rfl (by kernel_rfl) (by kernel_rfl) ⟨_, _, C1, ?_⟩
    refine RW.val (by kernel_rfl) (by kernel_rfl) rfl (by kernel_rfl) ?_
    refine RW.val (by kernel_rfl) (by kernel_rfl) rfl (by kernel_rfl) ?_
    refine RW.valE (by kernel_rfl) (by kernel_rfl) rfl (congrArg (Value.int .i64) (wrap_in (by omega) (by omega))) (by kernel_rfl) ?_
    refine RW.valE (v' := .bool false) (by kernel_rfl) (by kernel_rfl) rfl (congrArg Value.bool (bne_eq_false_iff_eq.2 hgone)) (by kernel_rfl) ?_
    refine RW.val (by kernel_rfl) (by kernel_rfl) rfl (by kernel_rfl) ?_
    refine RW.val (by rfl) (by kernel_rfl) rfl (by kernel_rfl) ?_
    refine RW.call (by rfl) (by kernel_rfl) rfl rfl rfl (by kernel_rfl) (by kernel_rfl) ⟨_, _, hmany2, ?_⟩
    refine RW.val (by rfl) (by kernel_rfl) rfl (by kernel_rfl) ?_
    refine RW.valE (v' := .bool false) (by rfl) (by kernel_rfl) rfl (congrArg Value.bool (bne_eq_false_iff_eq.2 (by omega))) (by kernel_rfl) ?_
    refine RW.val (by kernel_rfl) (by kernel_rfl) rfl (by kernel_rfl) ?_
    refine RW.val (by kernel_rfl) (by kernel_rfl) rfl (by kernel_rfl) ?_
    refine RW.val (by rfl) (by kernel_rfl) rfl (by kernel_rfl) ?_
    refine RW.val (by rfl) (by kernel_rfl) rfl (by kernel_rfl) ?_
    refine RW.call (by rfl) (by kernel_rfl) rfl rfl rfl (by kernel_rfl) (by kernel_rfl) ⟨_, _, C2, ?_⟩
    refine RW.valE (v' := .bool false) (by rfl) (by kernel_rfl) rfl (congrArg Value.bool (bne_eq_false_iff_eq.2 rfl)) (by kernel_rfl) ?_
    refine RW.val (by kernel_rfl) (by kernel_rfl) rfl (by kernel_rfl) ?_
    refine RW.nil ?_
    refine W.cond (b := false) rfl (fun h => by cases h) (fun _ => ?_)
    refine W.skip ?_
    exact next _ _ m2 hF hfind rfl rfl rfl rfl rfl
end Go.Proofs.YthmfiahmfdadgaaDoor
