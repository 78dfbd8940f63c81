/-
  HeapCollect in the second memory: the law's marking. Conditions: none.
-/
import Derived.Test.YthmfiahmfdadgaaDoorColB
namespace Go.Proofs.YthmfiahmfdadgaaDoor
set_option maxRecDepth 100000

abbrev hm1 (l1 l2 : List Int) (n : Nat) : HM := ⟨50, pairs (pk l1) (pk l2) n, []⟩
theorem unm_set (met : List Bool) (k : Nat) (h : met[k]? = some false) : unm (met.set k true) + 1 = unm met := filter_false met k h
theorem Mid.set {G : Nat} {σ0 σ : Mem} {m : HM} {met : List Bool} {v12 v13 : Value} {todo fr : List Nat} (h : Mid G σ0 σ m met v12 todo v13 fr) (hG : G ≤ σ0.next) (k : Nat) :
    Mid G σ0 (σ.put (σ0.next + 1) (.row ⟨(met.map Value.bool).set k (.bool true), 4, false⟩)) m (met.set k true) v12 todo v13 fr := by
  have n12 := h.ne12 h.row (.inr ⟨_, rfl, by show 4 ≠ 3; decide⟩)
  have n13 := h.ne13 h.row (.inr ⟨_, rfl, by show 4 ≠ 24; decide⟩)
  refine ⟨h.abs, fun b y hb hy => get_put_ne (h.old b y hb hy) (by omega), ?_, h.nx, h.td.keep fun b hb => ?_, h.fm.keep fun b hb => ?_⟩
  · rw [get_put h.row, List.map_set]
  · have : b ≠ σ0.next + 1 := fun e => n12 (by rw [hb, e])
    simp only [Mem.get, Mem.put, if_neg this]
  · have : b ≠ σ0.next + 1 := fun e => n13 (by rw [hb, e])
    simp only [Mem.get, Mem.put, if_neg this]
theorem Mid.cut {G : Nat} {σ0 σ : Mem} {m : HM} {met : List Bool} {v12 v13 : Value} {T fr : List Nat} {k : Nat} (h : Mid G σ0 σ m met v12 (T ++ [k]) v13 fr) :
    ∃ v', sliceF Tryd.prog 54 v12 none (some (.int .i64 T.length)) none = some v' ∧ Mid G σ0 σ m met v' T v13 fr := by
  obtain ⟨v', h1, h2, h3⟩ := grow_cut (P := Tryd.prog) (t := 54) (k := T.length) h.td (by simp) (by simp) (by kernel_rfl) (by kernel_rfl)
  refine ⟨v', h1, ⟨h.abs, h.old, h.row, h.nx, ?_, h.fm⟩⟩
  have : (ints (T ++ [k])).take (T.length * 1) = ints T := by
    rw [show ints (T ++ [k]) = ints T ++ ints [k] from List.map_append, Nat.mul_one, List.take_left']
    simp [ints]
  rwa [this] at h2
set_option maxHeartbeats 4000000 in
theorem st10 {G : Nat} {σ0 : Mem} {v1 v2 : Value} {l1 l2 l3 : List Int} (hG : G ≤ σ0.next) (a1 : ArgS G σ0 v1 l1) (a2 : ArgS G σ0 v2 l2) (h1 : l1.length ≤ 40) (h2 : l1.length ≤ l2.length) {ta : Nat → Value} {σ : Mem} {va vb : Value} (hM0 : Mid G σ0 σ (hm1 l1 l2 l1.length) (List.replicate 41 false) va (rts l3 l3.length) vb (rts l3 l3.length)) (h3 : l3.length ≤ 40) (e0 : ta 0 = v1) (e1 : ta 1 = v2) (e7 : ta 7 = .int .i64 l1.length) (e8 : ta 8 = .pointer (some ⟨σ0.next, 0, none⟩)) (e11 : ta 11 = .slice (some ⟨σ0.next + 1, 0, none⟩) 41 41) (e12 : ta 12 = va) (e13 : ta 13 = vb)
    (next : ∀ ta' σ v12 v13 met, Mid G σ0 σ (hm1 l1 l2 l1.length) met v12 [] v13 (rts l3 l3.length) → LawInv (hm1 l1 l2 l1.length) (pk l1) (pk l2) l1.length (rts l3 l3.length) met [] → ta' 0 = v1 → ta' 1 = v2 → ta' 7 = .int .i64 l1.length → ta' 8 = .pointer (some ⟨σ0.next, 0, none⟩) → ta' 11 = .slice (some ⟨σ0.next + 1, 0, none⟩) 41 41 → ta' 12 = v12 → ta' 13 = v13 → W G Tryd.prog none 223 (restN 11 (bodyOf Tryd.f5)) ta' [] σ (trueQ 6)) :
    W G Tryd.prog none 223 (restN 10 (bodyOf Tryd.f5)) ta [] σ (trueQ 6) := by
  have hL0 : LawInv (hm1 l1 l2 l1.length) (pk l1) (pk l2) l1.length (rts l3 l3.length) (List.replicate 41 false) (rts l3 l3.length) := LawInv.start rfl _ fun k hk => by
    obtain ⟨i, _, rfl⟩ := List.mem_map.1 hk
    exact pk_lt l3 i
  refine W.seq ?_
  refine W.block ?_
  refine W.loop (fun m ta σ => ∃ (met : List Bool) (todo : List Nat) (v12 v13 : Value), m = 2 * unm met + todo.length ∧ todo.length ≤ 200 ∧ 2 * unm met + todo.length ≤ 200 ∧ Mid G σ0 σ (hm1 l1 l2 l1.length) met v12 todo v13 (rts l3 l3.length) ∧ LawInv (hm1 l1 l2 l1.length) (pk l1) (pk l2) l1.length (rts l3 l3.length) met todo ∧ ta 0 = v1 ∧ ta 1 = v2 ∧ ta 7 = .int .i64 l1.length ∧ ta 8 = .pointer (some ⟨σ0.next, 0, none⟩) ∧ ta 11 = .slice (some ⟨σ0.next + 1, 0, none⟩) 41 41 ∧ ta 12 = v12 ∧ ta 13 = v13) (2 * unm (List.replicate 41 false) + (rts l3 l3.length).length) ?_ ?_
  · have hu : unm (List.replicate 41 false) = 41 := by decide
    exact ⟨_, _, va, vb, rfl, by rw [rts_length]; omega, by rw [rts_length, hu]; omega, hM0, hL0, e0, e1, e7, e8, e11, e12, e13⟩
  clear hM0 hL0 e0 e1 e7 e8 e11 e12 e13
  rintro m ta σ ⟨met, todo, v12, v13, hm, hm1, hm2, hM, hL, e0, e1, e7, e8, e11, e12, e13⟩
  refine W.know 0 e0 (W.know 1 e1 (W.know 7 e7 (W.know 8 e8 (W.know 11 e11 (W.know 12 e12 (W.know 13 e13 (?_)))))))
  have hGn : G ≤ σ.next := by have := hM.nx; omega
  refine W.seq ?_
  refine W.seq ?_
  refine W.region ?_
  refine RW.val (by kernel_rfl) (by kernel_rfl) rfl (by kernel_rfl) ?_
  refine RW.len (by kernel_rfl) (by kernel_rfl) rfl rfl rfl rfl (hM.td.len (by kernel_rfl)) (by kernel_rfl) ?_
  refine RW.val (by kernel_rfl) (by kernel_rfl) rfl (by kernel_rfl) ?_
  refine RW.nil ?_
  refine W.cond rfl (fun h => ?_) (fun h => ?_)
  · have hn0 : 0 < todo.length := by have := of_decide_eq_true h; omega
    obtain ⟨T, k, rfl⟩ : ∃ T k, todo = T ++ [k] := ⟨todo.dropLast, todo.getLast (by intro e; simp [e] at hn0), (List.dropLast_concat_getLast _).symm⟩
    obtain ⟨v', k1, k2⟩ := hM.cut
    obtain ⟨q, cq, rq, hv, gq, hq, uq⟩ := hM.td.some hn0
    have hk41 : k < 41 := hL.lt k (by simp)
    have hTl : (T ++ [k]).length = T.length + 1 := by simp
    have uk : rq.cs[0 + ((T.length : Nat) : Int).toNat * 1]? = some (.int .i64 (k : Int)) := by
      refine uq _ _ ?_
      simp [ints]
    refine W.skip ?_
    refine W.block ?_
    refine W.seq ?_
    refine W.region ?_
    refine RW.val (by kernel_rfl) (by kernel_rfl) rfl (by kernel_rfl) ?_
    refine RW.val (by kernel_rfl) (by kernel_rfl) rfl (by kernel_rfl) ?_
    refine RW.len (by kernel_rfl) (by kernel_rfl) rfl rfl rfl rfl (hM.td.len (by kernel_rfl)) (by kernel_rfl) ?_
    refine RW.valE (v' := .int .i64 (T.length : Nat)) (by kernel_rfl) (by kernel_rfl) rfl (congrArg (Value.int .i64) ((wrap_in (by omega) (by omega)).trans (by rw [hTl]; omega))) (by kernel_rfl) ?_
    refine RW.idx (s := 1) (b := q) (p := 0) (sp := some 1) (n := (T ++ [k]).length) (c := cq) (by kernel_rfl) (by kernel_rfl) rfl Tryd.underlying54 (by kernel_rfl) hv rfl ⟨by omega, by omega⟩ (by kernel_rfl) ?_
    refine RW.load (by kernel_rfl) (by kernel_rfl) rfl rfl gq uk rfl (by kernel_rfl) ?_
    refine RW.val (by kernel_rfl) (by kernel_rfl) rfl (by kernel_rfl) ?_
    refine RW.nil ?_
    refine W.seq ?_
    refine W.region ?_
    refine RW.val (by kernel_rfl) (by kernel_rfl) rfl (by kernel_rfl) ?_
    refine RW.val (by kernel_rfl) (by kernel_rfl) rfl (by kernel_rfl) ?_
    refine RW.len (by kernel_rfl) (by kernel_rfl) rfl rfl rfl rfl (hM.td.len (by kernel_rfl)) (by kernel_rfl) ?_
    refine RW.valE (v' := .int .i64 (T.length : Nat)) (by kernel_rfl) (by kernel_rfl) rfl (congrArg (Value.int .i64) ((wrap_in (by omega) (by omega)).trans (by rw [hTl]; omega))) (by kernel_rfl) ?_
    refine RW.cut (by kernel_rfl) (by kernel_rfl) rfl k1 (by kernel_rfl) ?_
    refine RW.val (by kernel_rfl) (by kernel_rfl) rfl (by kernel_rfl) ?_
    refine RW.nil ?_
    refine W.seq ?_
    refine W.seq ?_
    by_cases hkn : l1.length ≤ k
    · refine W.region ?_
      refine RW.val (by kernel_rfl) (by kernel_rfl) rfl (by kernel_rfl) ?_
      refine RW.val (by kernel_rfl) (by kernel_rfl) rfl (by kernel_rfl) ?_
      refine RW.valE (v' := .bool true) (by kernel_rfl) (by kernel_rfl) rfl (congrArg Value.bool (decide_eq_true (by omega))) (by kernel_rfl) ?_
      refine RW.val (by kernel_rfl) (by kernel_rfl) rfl (by kernel_rfl) ?_
      refine RW.skip (by rfl) (by kernel_rfl) ?_
      refine RW.skip (by rfl) (by kernel_rfl) ?_
      refine RW.skip (by rfl) (by kernel_rfl) ?_
      refine RW.skip (by rfl) (by kernel_rfl) ?_
      refine RW.val (by kernel_rfl) (by kernel_rfl) rfl (by kernel_rfl) ?_
      refine RW.nil ?_
      refine W.cond (b := true) rfl (fun _ => ?_) (fun h => by cases h)
      refine W.exit _ ?_
      exact ⟨rfl, 2 * unm met + T.length, by omega, met, T, v', v13, rfl, by omega, by omega, k2, hL.skip (.inl hkn), rfl, rfl, rfl, rfl, rfl, rfl, rfl⟩
    have hkn : k < l1.length := by omega
    have hml : k < met.length := by rw [hL.len]; exact hk41
    have hgm : met[k]? = some met[k] := List.getElem?_eq_getElem hml
    generalize met[k] = bk at hgm
    have um : (met.map Value.bool)[0 + ((k : Nat) : Int).toNat * 1]? = some (.bool bk) := by
      simp [hgm]
    refine W.region ?_
    refine RW.val (by kernel_rfl) (by kernel_rfl) rfl (by kernel_rfl) ?_
    refine RW.val (by kernel_rfl) (by kernel_rfl) rfl (by kernel_rfl) ?_
    refine RW.valE (v' := .bool false) (by kernel_rfl) (by kernel_rfl) rfl (congrArg Value.bool (decide_eq_false (by omega))) (by kernel_rfl) ?_
    refine RW.val (by kernel_rfl) (by kernel_rfl) rfl (by kernel_rfl) ?_
    refine RW.val (by rfl) (by kernel_rfl) rfl (by kernel_rfl) ?_
    refine RW.val (by rfl) (by kernel_rfl) rfl (by kernel_rfl) ?_
    refine RW.idx (s := 1) (by rfl) (by kernel_rfl) rfl Tryd.underlying55 (by kernel_rfl) rfl rfl ⟨by omega, by omega⟩ (by kernel_rfl) ?_
    refine RW.load (by rfl) (by kernel_rfl) rfl rfl hM.row um rfl (by kernel_rfl) ?_
    refine RW.val (by kernel_rfl) (by kernel_rfl) rfl (by kernel_rfl) ?_
    refine RW.nil ?_
    refine W.cond (b := bk) rfl (fun hb => ?_) (fun hb => ?_)
    · subst hb
      refine W.exit _ ?_
      exact ⟨rfl, 2 * unm met + T.length, by omega, met, T, v', v13, rfl, by omega, by omega, k2, hL.skip (.inr hgm), rfl, rfl, rfl, rfl, rfl, rfl, rfl⟩
    subst hb
    refine W.skip ?_
    obtain ⟨b1, c1, r1, x1, rfl, g1, w1, u1, lo1, hi1, p1⟩ := a1.at hkn
    obtain ⟨b2, c2, r2, x2, rfl, g2, w2, u2, lo2, hi2, p2⟩ := a2.at (Nat.lt_of_lt_of_le hkn h2)
    have k3 := k2.set hG k
    have hus := unm_set met k hgm
    refine W.seq ?_
    refine W.region ?_
    refine RW.val (by kernel_rfl) (by kernel_rfl) rfl (by kernel_rfl) ?_
    refine RW.val (by kernel_rfl) (by kernel_rfl) rfl (by kernel_rfl) ?_
    refine RW.idx (s := 1) (by kernel_rfl) (by kernel_rfl) rfl Tryd.underlying55 (by kernel_rfl) rfl rfl ⟨by omega, by omega⟩ (by kernel_rfl) ?_
    refine RW.store (b := σ0.next + 1) (v := .bool true) (by kernel_rfl) (by kernel_rfl) rfl rfl (by omega) k2.row rfl rfl rfl (by kernel_rfl) (by simp [hL.len]; omega) (by kernel_rfl) ?_
    refine RW.nil ?_
    rw [show 0 + ((k : Nat) : Int).toNat * 1 = k by simp]
    show W G Tryd.prog none 223 _ _ [] (σ.put (σ0.next + 1) (.row ⟨(met.map Value.bool).set k (.bool true), 4, false⟩)) _
    generalize σ.put (σ0.next + 1) (.row ⟨(met.map Value.bool).set k (.bool true), 4, false⟩) = σ1 at k3 ⊢
    obtain ⟨v2, cmd, j1, j2, j3⟩ := k3.app12 hG [pk l1 k, pk l2 k] (by simp) (by simp; omega)
    have hGn1 : G ≤ σ1.next := by have := k3.nx; omega
    refine W.drawn (by kernel_rfl) (by kernel_rfl) hGn1 ?_
    refine RW.val (by kernel_rfl) (by kernel_rfl) rfl (by kernel_rfl) ?_
    refine RW.val (by kernel_rfl) (by kernel_rfl) rfl (by kernel_rfl) ?_
    refine RW.val (by kernel_rfl) (by kernel_rfl) rfl (by kernel_rfl) ?_
    refine RW.idx (s := 1) (by kernel_rfl) (by kernel_rfl) rfl Tryd.underlying54 (by kernel_rfl) rfl rfl ⟨by omega, by omega⟩ (by kernel_rfl) ?_
    refine RW.load (by kernel_rfl) (by kernel_rfl) rfl rfl (k3.old _ _ g1 w1) u1 rfl (by kernel_rfl) ?_
    refine RW.call (by kernel_rfl) (by kernel_rfl) rfl rfl rfl (by kernel_rfl) (by kernel_rfl) ⟨_, _, s_pk lo1 hi1 p1, ?_⟩
    refine RW.val (by kernel_rfl) (by kernel_rfl) rfl (by kernel_rfl) ?_
    refine RW.val (by kernel_rfl) (by kernel_rfl) rfl (by kernel_rfl) ?_
    refine RW.idx (s := 1) (by kernel_rfl) (by kernel_rfl) rfl Tryd.underlying54 (by kernel_rfl) rfl rfl ⟨by omega, by omega⟩ (by kernel_rfl) ?_
    refine RW.load (by kernel_rfl) (by kernel_rfl) rfl rfl (k3.old _ _ g2 w2) u2 rfl (by kernel_rfl) ?_
    refine RW.call (by kernel_rfl) (by kernel_rfl) rfl rfl rfl (by kernel_rfl) (by kernel_rfl) ⟨_, _, s_pk lo2 hi2 p2, ?_⟩
    refine RW.make (x := .row ⟨ints [pk l1 k, pk l2 k], 3, false⟩) (fm := fun b => .slice (some ⟨b, 0, none⟩) 2 2) (by kernel_rfl) (by kernel_rfl) (by kernel_rfl) (by kernel_rfl) ?_
    refine RW.append (by kernel_rfl) (by kernel_rfl) rfl rfl rfl rfl j1 (by kernel_rfl) ?_
    refine RW.val (by kernel_rfl) (by kernel_rfl) rfl (by kernel_rfl) ?_
    refine RW.nil ?_
    refine ⟨⟨by kernel_rfl, ?_⟩, ?_⟩
    · have y1 := k3.old _ _ g1 w1
      have y2 := k3.old _ _ g2 w2
      repeat' (first | exact True.intro | refine dyn_row y1 (j3 _ _ g1 y1) ?_ | refine dyn_row y2 (j3 _ _ g2 y2) ?_ | exact Or.inl (by kernel_rfl) | exact fun h => Bool.noConfusion h | exact fun _ => y1 | exact fun _ => y2 | exact fun _ => get_push_old y1 | exact fun _ => get_push_old y2 | refine And.intro ?_ ?_)
    refine ⟨rfl, 2 * unm (met.set k true) + (T ++ [pk l1 k, pk l2 k]).length, by simp; omega, met.set k true, T ++ [pk l1 k, pk l2 k], v2, v13, rfl, by simp; omega, by simp; omega, j2, hL.mark rfl (pk_lt l1) (pk_lt l2) hkn, rfl, rfl, rfl, rfl, rfl, rfl, rfl⟩
  · have hn0 : todo.length = 0 := by have := of_decide_eq_false h; omega
    obtain rfl := List.eq_nil_of_length_eq_zero hn0
    refine W.exit _ ?_
    exact next _ _ _ _ met hM hL rfl rfl rfl rfl rfl rfl rfl
end Go.Proofs.YthmfiahmfdadgaaDoor
