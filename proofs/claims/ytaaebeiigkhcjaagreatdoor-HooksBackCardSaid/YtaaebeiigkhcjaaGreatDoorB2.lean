/-
 What Add and Remove do to functions and depths, by keys. Conditions: the heap lies there as HeapAt says.
 HooksBack in the second memory. Conditions: the heap lies there as HeapAt says.
-/
import Derived.Test.YtaaebeiigkhcjaaGreatDoorHba
import Derived.Test.YtaaebeiigkhcjaaGreatDoorHrh
namespace Go.Proofs.YtaaebeiigkhcjaaGreatDoor
set_option maxRecDepth 100000
def keysE (m : HM) (es : List Wd) : List (Wd × Int) := (es.filterMap (entO m)).map fun y => (keyW m y.1, y.2)
def dK (k : Wd) (l : List (Wd × Int)) : Int := match l.find? (fun y => decide (k = y.1)) with
 | some y => y.2
 | none => 0
theorem dK_cons (k : Wd) (y : Wd × Int) (l : List (Wd × Int)) : dK k (y :: l) = if k = y.1 then y.2 else dK k l := by
 unfold dK
 rw [List.find?_cons]
 by_cases e : k = y.1
 ·rw [if_pos e, decide_eq_true e]
 ·rw [if_neg e, decide_eq_false e]
theorem dK_filter (k kf : Wd) : ∀ l : List (Wd × Int), dK k (l.filter fun z => !decide (kf = z.1)) = if k = kf then 0 else dK k l
 | [] => by
  unfold dK
  simp
 | y :: l => by
  have ih := dK_filter k kf l
  by_cases e : kf = y.1
  ·rw [List.filter_cons_of_neg (by simp [e]), ih, dK_cons]
   by_cases e2 : k = kf
   ·rw [if_pos e2, if_pos e2]
   ·rw [if_neg e2, if_neg e2, if_neg (by rw [← e]; exact e2)]
  ·rw [List.filter_cons_of_pos (by simp [e]), dK_cons, ih, dK_cons]
   by_cases e2 : k = kf
   ·rw [if_pos e2, if_pos e2, if_neg (by rw [e2]; exact e)]
   ·rw [if_neg e2, if_neg e2]
section
variable {m m' : HM} {x f : Wd} {es : List Wd}
theorem depOf_keys : ∀ fs : List Rk, depOf m x fs = dK (keyW m x) (fs.map fun y => (keyW m y.1, y.2))
 | [] => rfl
 | y :: fs => by
  have ih := depOf_keys fs
  rw [List.map_cons, dK_cons, ← ih]
  unfold depOf
  rw [List.find?_cons]
  by_cases e : keyW m x = keyW m y.1
  ·rw [if_pos e, decide_eq_true e]
  ·rw [if_neg e, decide_eq_false e]
theorem depE_keys : depE m x es = dK (keyW m x) (keysE m es) := depOf_keys _
theorem keysE_mono (F : FindsAll m m') : ∀ {es : List Wd}, (∀ y ∈ es, DepE m y) → keysE m' es = keysE m es
 | [], _ => rfl
 | e :: es, h => by
  have ih := keysE_mono F (es := es) fun y hy => h y (List.mem_cons_of_mem _ hy)
  have h0 := h e (List.mem_cons_self ..)
  unfold keysE at ih ⊢
  cases h0 with
  | atom ha =>
   have e1 : ∀ m : HM, entO m e = none := fun m => by unfold entO; rw [find_atom ha]
   rw [List.filterMap_cons, List.filterMap_cons, e1, e1]
   exact ih
  | @pair k g d hf gg =>
   have e1 : entO m' (2, k) = entO m (2, k) := by unfold entO; rw [hf, F _ _ hf]
   rw [List.filterMap_cons, List.filterMap_cons, e1]
   cases hE : entO m (2, k) with
   | none => exact ih
   | some y =>
    have hy : y.1 = g := by
     unfold entO at hE
     rw [hf] at hE
     dsimp only at hE
     split at hE
     ·cases hE; rfl
     ·cases hE
    dsimp only
    rw [List.map_cons, List.map_cons, ih, hy, (Good.mono F gg).2]
theorem keysE_filter : ∀ es : List Wd, keysE m (es.filter fun y => !selE m f y) = (keysE m es).filter fun z => !decide (keyW m f = z.1)
 | [] => rfl
 | e :: es => by
  have ih := keysE_filter es
  unfold keysE at ih ⊢
  cases hE : entO m e with
  | none =>
   rw [List.filter_cons_of_pos (by rw [selE_no hE]; rfl), List.filterMap_cons, List.filterMap_cons, hE]
   exact ih
  | some y =>
   rw [List.filterMap_cons, hE]
   dsimp only
   rw [List.map_cons]
   by_cases e2 : keyW m f = keyW m y.1
   ·rw [List.filter_cons_of_neg (by rw [selE_yes (d := y.2) hE]; simp [e2]), List.filter_cons_of_neg (by simp [e2])]
    exact ih
   ·rw [List.filter_cons_of_pos (by rw [selE_yes (d := y.2) hE]; simp [e2]), List.filter_cons_of_pos (by simp [e2]), List.filterMap_cons, hE]
    dsimp only
    rw [List.map_cons, ih]
theorem keys_same {kes kqs : List (Wd × Int)} {kf : Wd} (hq : kqs = kes ∨ ∃ d, kqs = (kf, d) :: kes) (h0 : dK kf kes = 0) (k : Wd) : dK k (kqs.filter fun z => !decide (kf = z.1)) = dK k kes := by
 rw [dK_filter]
 by_cases e : k = kf
 ·rw [if_pos e, e, h0]
 ·rw [if_neg e]
  rcases hq with rfl | ⟨d, rfl⟩
  ·rfl
  ·rw [dK_cons, if_neg e]
theorem has_mono {ws : List Wd} (F : FindsAll m m') (gx : Good m x) (gws : ∀ y ∈ ws, Good m y) : hasW m' x ws = hasW m x ws := by
 unfold hasW
 rw [(Good.mono F gx).2]
 induction ws with
 | nil => rfl
 | cons y ws ih =>
  rw [List.any_cons, List.any_cons, (Good.mono F (gws y (List.mem_cons_self ..))).2, ih fun z hz => gws z (List.mem_cons_of_mem _ hz)]
theorem has_filter {ws : List Wd} : hasW m f (ws.filter fun y => !decide (keyW m f = keyW m y)) = false := has_false fun y hy => by
 have := (List.mem_filter.1 hy).2
 simpa using this
theorem filter_not {ws : List Wd} (h : hasW m f ws = false) : ws.filter (fun y => !decide (keyW m f = keyW m y)) = ws := List.filter_eq_self.2 fun y hy => by
 unfold hasW at h
 have := List.any_eq_false.1 h y hy
 simpa using this
theorem flat_perm {us vs : List Wd} (h : us.Perm vs) : (flatL us []).length = (flatL vs []).length := by
 unfold flatL
 induction h with
 | nil => rfl
 | cons x _ ih => rw [List.flatMap_cons, List.flatMap_cons, List.length_append, List.length_append, ih]
 | swap x y l => simp only [List.flatMap_cons, List.length_append]; omega
 | trans _ _ a b => exact a.trans b
structure AddX (m : HM) (f : Wd) (ws es xs : List Wd) : Prop where
 mem : f ∈ xs
 all : ∀ y ∈ xs, y = f ∨ y ∈ ws
 perm : (xs.filter fun y => !decide (keyW m f = keyW m y)).Perm ws
 nil : es = [] → xs.filter (fun y => !decide (keyW m f = keyW m y)) = ws
 len : xs.length = ws.length + 1
structure AddQ (m m' : HM) (f : Wd) (es qs : List Wd) : Prop where
 keys : keysE m' qs = keysE m es ∨ ∃ d, keysE m' qs = (keyW m f, d) :: keysE m es
 dep : ∀ y ∈ qs, DepE m' y
 len : qs.length ≤ es.length + 1
theorem stab_all {ws : List Wd} {d : Int} {ys : List Rk} (hF : hasW m f ws = false) (h : StabR (if 0 < d then ws.map (rkOf m (es.filterMap (entO m))) ++ [(f, d)] else (f, d) :: ws.map (rkOf m (es.filterMap (entO m)))) ys) : AddX m f ws es (ys.map Prod.fst) := by
 have hfst : ∀ fs : List Rk, (ws.map (rkOf m fs)).map Prod.fst = ws := fun fs => by
  rw [List.map_map]
  exact List.map_id _
 have hfil : ∀ l : List Wd, l = (if 0 < d then ws ++ [f] else f :: ws) → l.filter (fun y => !decide (keyW m f = keyW m y)) = ws := fun l hl => by
  have e1 : [f].filter (fun y => !decide (keyW m f = keyW m y)) = [] := by simp
  rw [hl]
  split
  ·rw [List.filter_append, filter_not hF, e1, List.append_nil]
  ·rw [← List.singleton_append, List.filter_append, filter_not hF, e1, List.nil_append]
 have hal : (if 0 < d then ws.map (rkOf m (es.filterMap (entO m))) ++ [(f, d)] else (f, d) :: ws.map (rkOf m (es.filterMap (entO m)))).map Prod.fst = (if 0 < d then ws ++ [f] else f :: ws) := by
  split
  ·rw [List.map_append, hfst]; rfl
  ·rw [List.map_cons, hfst]
 have hp := h.perm.map Prod.fst
 rw [hal] at hp
 have hmem : ∀ y, y ∈ ys.map Prod.fst ↔ y = f ∨ y ∈ ws := fun y => by
  rw [hp.mem_iff]
  split
  ·rw [List.mem_append, List.mem_singleton]; exact Or.comm
  ·rw [List.mem_cons]
 refine ⟨(hmem f).2 (.inl rfl), fun y hy => (hmem y).1 hy, ?_, fun he => ?_, ?_⟩
 ·have := hp.filter (fun y => !decide (keyW m f = keyW m y))
  rwa [hfil _ rfl] at this
 ·subst he
  refine hfil _ ?_
  rw [← hal]
  refine congrArg (List.map Prod.fst) (stab_unique h.sorted ?_ h.same)
  have h0 : ∀ y ∈ ws.map (rkOf m (List.filterMap (entO m) [])), y.2 = 0 := fun y hy => by
   obtain ⟨z, _, rfl⟩ := List.mem_map.1 hy
   rfl
  have hs : SortedR (ws.map (rkOf m (List.filterMap (entO m) []))) := by
   unfold SortedR
   rw [List.pairwise_map]
   exact List.pairwise_of_forall fun a b => Int.le_refl _
  unfold SortedR at hs ⊢
  split
  ·rw [List.pairwise_append]
   refine ⟨hs, List.pairwise_singleton _ _, fun a ha b hb => ?_⟩
   rw [List.mem_singleton.1 hb, h0 a ha]
   omega
  ·rw [List.pairwise_cons]
   refine ⟨fun a ha => ?_, hs⟩
   rw [h0 a ha]
   omega
 ·have := hp.length_eq
  rw [this]
  split <;> simp
end
section
variable {h : Nat} {m : HM} {σ0 : Mem}
theorem addB {vw p f : Wd} {ws es : List Wd} {d : Int} (hG : G66 ≤ σ0.next) (ha : σ0.abs = heapAbs h m) (hlo : 0 < m.limit) (hN : GNull σ0.get) (E : ElemR m vw ws) (Q : ListR m p es) (hn : es.length ≤ 65536) (hw12 : ws.length ≤ 12) (gf : Good m f) (hf0 : (f.1 == 1 && f.2 == 0) = false) (gws : ∀ y ∈ ws, Good m y) (hF : hasW m f ws = false) (hes : ∀ y ∈ es, DepE m y) (hf : m.free = []) (hr : m.many + ws.length + 3 ≤ m.limit) (hlim : m.limit ≤ 65536) (h1 : -100 ≤ d) (h2 : d ≤ 100) :
  WC G66 Tryz.prog 11 #[pp h, wdV vw, wdV p, wdV f, .int .i64 d] σ0 fun r σ' => ∃ m' xw qw xs qs, r = .tuple #[wdV xw, wdV qw, .int .i64 0] ∧ ExtH m m' (ws.length + 3) ∧ ListR m' xw xs ∧ ListR m' qw qs ∧ AddX m f ws es xs ∧ AddQ m m' f es qs ∧ Lies G66 (heapAbs h m') σ0.get σ' [] := by
 obtain ⟨c, hx, hp⟩ := Q
 refine (addJ hG ha hlo hN (E.elems hlo (by omega)) hx hp hn hw12 gf hf0 gws hF rfl hes hf hr hlim h1 h2).mono fun r σ' ⟨ys, hys, hh⟩ => ?_
 have hyl : ys.length = ws.length + 1 := by rw [hys.len]; split <;> simp
 have B : ExtH m (built m (ys.map Prod.fst) (1, 0)).1 (ws.length + 1) := (ext_built hf _ _).le (by rw [List.length_map]; omega)
 have X := stab_all hF hys
 rcases hh with ⟨_, rfl, K⟩ | ⟨_, rfl, K⟩
 ·exact ⟨_, _, _, _, es, rfl, B.le (by omega), .built, ⟨c, hx, hp.mono B.finds⟩, X, ⟨.inl (keysE_mono B.finds hes), fun y hy => (hes y hy).mono B.finds, by omega⟩, K⟩
 ·have F1 := finds_push (built m (ys.map Prod.fst) (1, 0)).1 (.pair f (0, d))
  have f1 := find_pushed (built m (ys.map Prod.fst) (1, 0)).1 f (0, d)
  have F2 := finds_push ((built m (ys.map Prod.fst) (1, 0)).1.push (.pair f (0, d))) (.pair (2, ((built m (ys.map Prod.fst) (1, 0)).1.objs.length : Int)) p)
  have f2 := find_pushed ((built m (ys.map Prod.fst) (1, 0)).1.push (.pair f (0, d))) (2, ((built m (ys.map Prod.fst) (1, 0)).1.objs.length : Int)) p
  have FF := B.finds.trans (F1.trans F2)
  have f1' := F2 _ _ f1
  have gf' := (Good.mono FF gf)
  refine ⟨_, _, _, _, (2, ((built m (ys.map Prod.fst) (1, 0)).1.objs.length : Int)) :: es, rfl, ((B.trans (ext_push B.free _)).trans (ext_push (ext_push B.free _).free _)).le (by omega), ListR.built.mono (F1.trans F2), ⟨_, rfl, chain_cons (hp.mono FF) (by rw [hx]; exact f2)⟩, X, ⟨.inr ⟨d, ?_⟩, fun y hy => ?_, by simp⟩, K⟩
  ·have e1 : entO (((built m (ys.map Prod.fst) (1, 0)).1.push (.pair f (0, d))).push (.pair (2, ((built m (ys.map Prod.fst) (1, 0)).1.objs.length : Int)) p)) (2, ((built m (ys.map Prod.fst) (1, 0)).1.objs.length : Int)) = some (f, d) := by
    unfold entO
    rw [f1']
    exact if_pos rfl
   rw [← keysE_mono FF hes]
   unfold keysE
   rw [List.filterMap_cons, e1]
   dsimp only
   rw [List.map_cons, gf'.2]
  ·rcases List.mem_cons.1 hy with rfl | hy
   ·exact .pair f1' gf'.1
   ·exact (hes y hy).mono FF
theorem remP_elem {m : HM} {w : Wd} {ws : List Wd} {p : Wd → Bool} (E : ElemR m w ws) (hf : ∀ y ∈ ws, Fine y) : ElemR (remP m w ws (ws.filter p)).1 (remP m w ws (ws.filter p)).2 (ws.filter p) := by
 by_cases e : (ws.filter p).length < ws.length
 ·rw [remP_yes e]
  exact ListR.built.elem fun y hy => hf y (List.mem_filter.1 hy).1
 ·rw [remP_no e, List.filter_sublist.eq_of_length_le (by omega)]
  exact E
theorem remP_list {m : HM} {w : Wd} {ws : List Wd} {p : Wd → Bool} (E : ListR m w ws) : ListR (remP m w ws (ws.filter p)).1 (remP m w ws (ws.filter p)).2 (ws.filter p) := by
 by_cases e : (ws.filter p).length < ws.length
 ·rw [remP_yes e]
  exact ListR.built
 ·rw [remP_no e, List.filter_sublist.eq_of_length_le (by omega)]
  exact E
theorem removeB {vw p f : Wd} {ws es : List Wd} (hG : G66 ≤ σ0.next) (ha : σ0.abs = heapAbs h m) (hlo : 0 < m.limit) (hN : GNull σ0.get) (E : ElemR m vw ws) (Q : ListR m p es) (hn : es.length ≤ 65536) (hnw : ws.length ≤ 65536) (gf : Good m f) (gws : ∀ y ∈ ws, Fine y ∧ Good m y) (hes : ∀ y ∈ es, DepE m y) (hf : m.free = []) (hr : m.many + ws.length + es.length ≤ m.limit) (hlim : m.limit ≤ 65536) :
  WC G66 Tryz.prog 13 #[pp h, wdV vw, wdV p, wdV f] σ0 fun r σ' => ∃ m' y q, r = .tuple #[wdV y, wdV q, .int .i64 0] ∧ ExtH m m' (ws.length + es.length) ∧ ElemR m' y (ws.filter fun y => !decide (keyW m f = keyW m y)) ∧ ListR m' q (es.filter fun y => !selE m f y) ∧ (hasW m f ws = false → y = vw) ∧ Lies G66 (heapAbs h m') σ0.get σ' [] := by
 obtain ⟨c, hx, hp⟩ := Q
 refine (remove_wc hG ha hlo hN (E.elems hlo hnw) E.nil hx hp hn hnw gf (fun y hy => (gws y hy).2) hes hf hr hlim).mono fun r σ' ⟨e, K⟩ => ?_
 have X1 := ext_remP (m := m) (w := vw) (ws := ws) (xs := ws.filter fun y => !decide (keyW m f = keyW m y)) hf
 have X2 := ext_remP (m := (remP m vw ws (ws.filter fun y => !decide (keyW m f = keyW m y))).1) (w := p) (ws := es) (xs := es.filter fun y => !selE m f y) X1.free
 refine ⟨_, _, _, e, X1.trans X2, (remP_elem E fun y hy => (gws y hy).1).mono X2.finds, remP_list ⟨c, hx, hp.mono X1.finds⟩, fun h0 => ?_, K⟩
 show (remP m vw ws (ws.filter fun y => !decide (keyW m f = keyW m y))).2 = vw
 rw [filter_not h0, remP_no (Nat.lt_irrefl _)]
end
end Go.Proofs.YtaaebeiigkhcjaaGreatDoor
namespace Go.Proofs.YtaaebeiigkhcjaaGreatDoor
set_option maxRecDepth 100000
set_option maxHeartbeats 16000000 in
theorem back_wc {σ0 : Mem} {v1 v2 : Value} {l : List Int} {d : List Dk} {one : Bool} {fi dp : Int} (hG : G66 ≤ σ0.next) (h16 : 16 ≤ G66) (hno : σ0.abs = Abs.no) (hR : RowsAt rowsH σ0) (hl : SlF σ0.get 1 v1 l.length (l.map (Value.int .i64))) (hd : SlF σ0.get 3 v2 d.length (dpC d)) (bl : ∀ x ∈ l, -9223372036854775808 ≤ x ∧ x ≤ 9223372036854775807) (bd : ∀ x ∈ d, (-9223372036854775808 ≤ x.1 ∧ x.1 ≤ 9223372036854775807) ∧ -9223372036854775808 ≤ x.2.1 ∧ x.2.1 ≤ 9223372036854775807) (lo0 : -9223372036854775808 ≤ fi) (hi0 : fi ≤ 9223372036854775807) (lo1 : -9223372036854775808 ≤ dp) (hi1 : dp ≤ 9223372036854775807) (hN : GNull σ0.get) (hTee : GTee σ0.get) :
  WC G66 Tryz.prog 5 #[v1, .bool one, v2, .int .i64 fi, .int .i64 dp] σ0 fun v _ => v = .bool true := by
 have H := Lies.start hG hno
 have CL := s_lives h16 σ0 hR
 generalize σ0.get = F at H hl hd hN hTee
 refine WC.enter (fn := Tryz.f5) Tryz.func5 rfl ?_
 refine W.rg [(0, v1), (1, .bool one), (2, v2), (3, .int .i64 fi), (4, .int .i64 dp)] fun TA => ?_
 refine W.seq (W.region ?_)
 refine RW.v ?_
 refine RW.nil ?_
 refine W.rg [(0, v1), (1, .bool one), (2, v2), (3, .int .i64 fi), (4, .int .i64 dp)] fun TA => ?_
 refine W.seq ?_
 refine W.seq (W.region ?_)
 refine RW.cl ?_
 refine ⟨_, _, CL, ?_⟩
 clear CL
 refine RW.v ?_
 refine RW.nil ?_
 refine W.c0 ?_
 refine W.skip ?_
 refine W.seq ?_
 refine W.seq (W.region ?_)
 iterate 2 refine RW.v ?_
 refine RW.mkL H (x := .row ⟨[v1], 44, false⟩) (fm := fun b => .slice (some ⟨b, 0, none⟩) 1 1) (by kernel_rfl) (by kernel_rfl) (by rcases slf_forms hl with rfl | ⟨_, rfl⟩ | ⟨_, _, _, _, _, rfl⟩ <;> kernel_rfl) (by kernel_rfl) ?_
 clear H; intro _ b1 _ H
 refine RW.cl ?_
 refine WC.enter (fn := Tryz.f19) Tryz.func19 rfl ?_
 refine W.rg [(0, v2), (1, .slice (some ⟨b1, 0, none⟩) 1 1)] fun TA => ?_
 refine W.seq (W.region ?_)
 refine RW.v ?_
 refine RW.nil ?_
 refine W.rg [(0, v2), (1, .slice (some ⟨b1, 0, none⟩) 1 1)] fun TA => ?_
 refine W.seq ?_
 refine W.seq (W.region ?_)
 refine RW.v ?_
 refine RW.nil ?_
 refine W.rg [(0, v2), (1, .slice (some ⟨b1, 0, none⟩) 1 1), (5, .int .i64 0)] fun TA => ?_
 refine W.block ?_
 refine W.unroll (WL.once ?_)
 refine W.seq ?_
 refine W.seq (W.region ?_)
 iterate 4 refine RW.v ?_
 refine RW.nil ?_
 refine W.c1 ?_
 refine W.skip ?_
 refine W.seq ?_
 refine W.block ?_
 refine W.seq (W.region ?_)
 iterate 2 refine RW.v ?_
 refine RW.idx (s := 1) (by kernel_rfl) (by kernel_rfl) rfl Tryz.underlying99 (by kernel_rfl) rfl rfl ⟨by decide, by decide⟩ (by kernel_rfl) ?_
 refine RW.ld H 0 1 ?_
 refine RW.len (by kernel_rfl) (by kernel_rfl) rfl rfl rfl rfl (hl.len (e := 3) (by kernel_rfl)) (by kernel_rfl) ?_
 refine RW.v ?_
 refine RW.nil ?_
 refine W.rg [(0, v2), (1, .slice (some ⟨b1, 0, none⟩) 1 1), (5, .int .i64 0), (17, .bool (decide ((l.length : Int) > 12)))] fun TA => ?_
 refine W.cond rfl (fun hc2 => ?_) (fun hc2 => ?_)
 ·have hc2b := hc2
  have hc2 := of_decide_eq_true hc2
  refine W.seq (W.region ?_)
  refine RW.v ?_
  refine RW.nil ?_
  refine W.ret ?_
  refine blkQ_ret ?_
  refine seqQ_ret ?_
  refine onceQ_ret ?_
  refine blkQ_ret ?_
  refine seqQ_ret ?_
  refine endG (by rfl) (by exact resL_tmp rfl) ?_
  refine RW.v ?_
  refine RW.nil ?_
  replace H := (H.del 0)
  dsimp only [setL, delL] at H
  refine W.c1 ?_
  refine W.seq (W.region ?_)
  refine RW.v ?_
  refine RW.nil ?_
  refine W.ret ?_
  refine seqQ_ret ?_
  refine endG (by rfl) (by exact resL_tmp rfl) ?_
  exact rfl
 ·have hc2b := hc2
  have hc2 := of_decide_eq_false hc2
  refine W.skip ?_
  refine blkQ_normal ?_
  refine W.region ?_
  iterate 3 refine RW.v ?_
  refine RW.nil ?_
  refine WL.once ?_
  refine W.rg [(0, v2), (1, .slice (some ⟨b1, 0, none⟩) 1 1), (5, .int .i64 1)] fun TA => ?_
  refine W.seq ?_
  refine W.seq (W.region ?_)
  iterate 4 refine RW.v ?_
  refine RW.nil ?_
  refine W.c0 ?_
  refine W.exit _ ?_
  refine seqQ_exit ?_
  refine onceQ_exit ?_
  refine blkQ_here ?_
  refine W.seq (W.region ?_)
  refine RW.v ?_
  refine RW.len (by kernel_rfl) (by kernel_rfl) rfl rfl rfl rfl (hd.len (e := 110) (by kernel_rfl)) (by kernel_rfl) ?_
  iterate 2 refine RW.v ?_
  refine RW.nil ?_
  refine W.ret ?_
  refine endG (by rfl) (by exact resL_tmp rfl) ?_
  refine RW.v ?_
  refine RW.nil ?_
  replace H := (H.del 0)
  dsimp only [setL, delL] at H
  refine W.rg [(0, v1), (1, .bool one), (2, v2), (3, .int .i64 fi), (4, .int .i64 dp), (48, .bool (!(decide ((d.length : Int) ≤ 12))))] fun TA => ?_
  refine W.cond rfl (fun hc3 => ?_) (fun hc3 => ?_)
  ·have hc3b := hc3
   refine W.seq (W.region ?_)
   refine RW.v ?_
   refine RW.nil ?_
   refine W.ret ?_
   refine seqQ_ret ?_
   refine endG (by rfl) (by exact resL_tmp rfl) ?_
   exact rfl
  ·have hc3b := hc3
   have hdl : d.length ≤ 12 := by have := hc3b; simp at this; omega
   refine W.skip ?_
   refine W.seq (W.region ?_)
   refine RW.cl ?_
   refine WC.enter (fn := Tryz.f7) Tryz.func7 rfl ?_
   refine W.rg [] fun TA => ?_
   refine W.seq (W.region ?_)
   iterate 2 refine RW.v ?_
   refine RW.nil ?_
   refine W.rg [] fun TA => ?_
   refine W.seq (W.region ?_)
   refine RW.cl ?_
   refine ((new_lies (G := G66) 2000 (by decide) (by decide) H).mono ?_)
   clear H
   rintro _ _ ⟨h, rfl, H⟩
   iterate 5 refine RW.v ?_
   refine RW.nil ?_
   refine W.rg [(2, pp h), (3, .int .i64 0)] fun TA => ?_
   refine W.seq (W.region ?_)
   iterate 5 refine RW.v ?_
   refine RW.nil ?_
   refine W.ret ?_
   refine endG (by rfl) (by exact resL_tmp (by exact resL_tmp rfl)) ?_
   iterate 5 refine RW.v ?_
   refine RW.nil ?_
   refine W.rg [(0, v1), (1, .bool one), (2, v2), (3, .int .i64 fi), (4, .int .i64 dp), (11, pp h), (12, .bool true)] fun TA => ?_
   refine W.seq ?_
   refine W.seq (W.region ?_)
   iterate 2 refine RW.v ?_
   refine RW.nil ?_
   refine W.c0 ?_
   refine W.skip ?_
   refine W.seq (W.region ?_)
   iterate 3 refine RW.v ?_
   refine RW.cl ?_
   refine ((value3_wc (one := one) (h := h) (m := hm0 2000) (l := l) H.gn H.abs rfl (by rw [hm0_many]; show 0 + 3 * l.length ≤ 2000; omega) (by decide) (by decide) (hl.le H.old) bl (by omega)).mono ?_)
   rintro _ _ ⟨m1, vw, ws, rfl, E1, hel, hlw, hfg, K⟩
   replace H := H.then K
   clear K
   dsimp only [List.nil_append, List.cons_append] at H
   have M1 : m1.many ≤ 36 := by have := E1.many; rw [hm0_many] at this; omega
   have L1 : m1.limit = 2000 := E1.lim
   iterate 2 refine RW.v ?_
   refine RW.cl ?_
   refine ((deep_wc (h := h) (m := m1) (l := d) H.gn H.abs E1.free (by omega) (by omega) (by omega) (hd.le H.old) bd (by omega)).mono ?_)
   rintro _ _ ⟨m2, p, es, c2, rfl, E2, hc2, hp2, hle, hde, K⟩
   replace H := H.then K
   clear K
   dsimp only [List.nil_append, List.cons_append] at H
   have M2 : m2.many ≤ 84 := by have := E2.many; omega
   have L2 : m2.limit = 2000 := E2.lim.trans L1
   iterate 2 refine RW.v ?_
   refine RW.cl ?_
   refine ((word3_wc (h := h) (m := m2) fi H.gn H.abs E2.free (by omega) (by omega) lo0 hi0).mono ?_)
   rintro _ _ ⟨m3, w, rfl, E3, hw, gw, kw, K⟩
   replace H := H.then K
   clear K
   dsimp only [List.nil_append, List.cons_append] at H
   have M3 : m3.many ≤ 86 := by have := E3.many; omega
   have L3 : m3.limit = 2000 := E3.lim.trans L2
   have lo3 : 0 < m3.limit := by omega
   have hEl : ElemR m3 vw ws := hel.mono (E2.finds.trans E3.finds)
   have hQ : ListR m3 p es := ⟨c2, hc2, hp2.mono E3.finds⟩
   have gws : ∀ y ∈ ws, Fine y ∧ Good m3 y := fun y hy => ⟨(hfg y hy).1, ((hfg y hy).2.mono' (E2.finds.trans E3.finds)).1⟩
   have gws2 : ∀ y ∈ ws, Good m3 y := fun y hy => (gws y hy).2
   have hes : ∀ y ∈ es, DepE m3 y := fun y hy => (hde y hy).mono E3.finds
   have hF3 := E3.free
   clear hfg hde hel hp2
   refine RW.mk H (.row ⟨[.int .i64 0, .int .i64 0], 27, false⟩) ?_
   clear H; intro _ b4 _ H
   refine RW.mk H (.row ⟨[.int .i64 0, .int .i64 0], 27, false⟩) ?_
   clear H; intro _ b5 _ H
   refine RW.mk H (.row ⟨[.int .i64 0, .int .i64 0], 27, false⟩) ?_
   clear H; intro _ b6 _ H
   refine RW.st H 2 [.int .i64 vw.1, .int .i64 vw.2] [.int .i64 vw.1, .int .i64 vw.2] ?_
   clear H; intro _ _ H; dsimp only [setL, delL] at H
   refine RW.st H 1 [.int .i64 p.1, .int .i64 p.2] [.int .i64 p.1, .int .i64 p.2] ?_
   clear H; intro _ _ H; dsimp only [setL, delL] at H
   refine RW.st H 0 [.int .i64 w.1, .int .i64 w.2] [.int .i64 w.1, .int .i64 w.2] ?_
   clear H; intro _ _ H; dsimp only [setL, delL] at H
   refine RW.nil ?_
   refine W.rg [(2, v2), (4, .int .i64 dp), (11, pp h), (13, pp b4), (14, pp b5), (15, pp b6)] fun TA => ?_
   refine W.seq ?_
   refine W.drawn (by kernel_rfl) (by kernel_rfl) H.gn ?_
   have H7 := H
   refine RW.v ?_
   refine RW.ld H7 2 2 ?_
   refine RW.cl ?_
   refine ⟨_, _, s_nilK (G := G66), ?_⟩
   refine RW.cl ?_
   refine ((functions_wc (h := h) (m := m3) (ws := ws) (us := []) H7.gn H7.abs lo3 (hEl.elems lo3 (by omega)) ((elemR_nil m3).elems lo3 (by decide)) (by omega) (by decide) (hN.le H7.old) (hTee.le H7.old)).mono ?_)
   rintro _ _ ⟨slwas, rfl, K8⟩
   have H9 := H7.then K8
   dsimp only [List.nil_append, List.cons_append] at H9
   iterate 5 refine RW.v ?_
   refine RW.nil ?_
   refine ⟨⟨by kernel_rfl, ⟨trivial, dyn_row (H7.get 2 rfl) (H9.get 3 rfl) ⟨fun h => Bool.noConfusion h, fun h => Bool.noConfusion h, fun _ => H7.get 2 rfl, fun _ => H7.get 2 rfl, fun h => Bool.noConfusion h, fun h => Bool.noConfusion h, fun h => Bool.noConfusion h, fun h => Bool.noConfusion h, fun h => Bool.noConfusion h, trivial⟩, trivial, trivial, trivial, trivial, trivial, trivial, trivial, trivial⟩⟩, ?_⟩
   replace H := H9
   clear H7 H9
   refine W.rg [(2, v2), (4, .int .i64 dp), (11, pp h), (13, pp b4), (14, pp b5), (15, pp b6), (16, slwas), (17, .int .i64 0)] fun TA => ?_
   refine W.seq (W.region ?_)
   refine RW.v ?_
   refine RW.ld H 3 2 ?_
   refine RW.ld H 1 2 ?_
   refine RW.cl ?_
   refine ((has_wc (h := h) (m := m3) (ws := ws) H.gn H.abs lo3 (hN.le H.old) (hEl.elems lo3 (by omega)) (by omega) gw gws2).mono ?_)
   rintro _ _ ⟨rfl, K⟩
   replace H := H.then K
   clear K
   dsimp only [List.nil_append, List.cons_append] at H
   iterate 5 refine RW.v ?_
   refine RW.nil ?_
   refine W.rg [(2, v2), (4, .int .i64 dp), (11, pp h), (13, pp b4), (14, pp b5), (15, pp b6), (16, slwas), (17, .int .i64 0), (18, .bool (hasW m3 w ws)), (19, .int .i64 0)] fun TA => ?_
   refine W.seq (W.region ?_)
   refine RW.v ?_
   refine RW.ld H 2 2 ?_
   refine RW.ld H 1 2 ?_
   refine RW.cl ?_
   refine ((DepthE_wc (h := h) (m := m3) (es := es) H.gn H.abs lo3 (by omega) hQ.choose_spec.1 hQ.choose_spec.2 gw hes).mono ?_)
   rintro _ _ ⟨rfl, K⟩
   replace H := H.then K
   clear K
   dsimp only [List.nil_append, List.cons_append] at H
   iterate 5 refine RW.v ?_
   refine RW.nil ?_
   refine W.rg [(2, v2), (4, .int .i64 dp), (11, pp h), (13, pp b4), (14, pp b5), (15, pp b6), (16, slwas), (17, .int .i64 0), (18, .bool (hasW m3 w ws)), (19, .int .i64 0), (20, .int .i64 (depE m3 w es)), (21, .int .i64 0)] fun TA => ?_
   refine W.seq ?_
   refine W.seq (W.region ?_)
   iterate 3 refine RW.v ?_
   refine RW.val (by rfl) (by kernel_rfl) rfl (by kernel_rfl) ?_
   refine RW.val (by rfl) (by kernel_rfl) rfl (by kernel_rfl) ?_
   iterate 2 refine RW.v ?_
   refine RW.val (by rfl) (by kernel_rfl) rfl (by kernel_rfl) ?_
   refine RW.val (by rfl) (by kernel_rfl) rfl (by kernel_rfl) ?_
   refine RW.v ?_
   refine RW.nil ?_
   refine W.c0 ?_
   refine W.skip ?_
   refine W.seq ?_
   refine W.seq ?_
   refine W.drawn (by kernel_rfl) (by kernel_rfl) H.gn ?_
   have H10 := H
   iterate 2 refine RW.v ?_
   refine RW.both _ _ rfl rfl rfl (fun hc11 => ?_) (fun hc11 => ?_)
   ·have hc11b := hc11
    refine RW.skip (by rfl) (by kernel_rfl) ?_
    refine RW.skip (by rfl) (by kernel_rfl) ?_
    iterate 2 refine RW.v ?_
    refine RW.skip (by rfl) (by kernel_rfl) ?_
    refine RW.skip (by rfl) (by kernel_rfl) ?_
    refine RW.skip (by rfl) (by kernel_rfl) ?_
    refine RW.v ?_
    refine RW.nil ?_
    refine ⟨⟨by kernel_rfl, ⟨trivial, trivial, trivial, trivial, trivial, trivial, trivial, trivial, trivial, trivial, trivial⟩⟩, ?_⟩
    replace H := H10
    clear H10
    refine W.c1 ?_
    refine W.seq (W.region ?_)
    refine RW.v ?_
    refine RW.nil ?_
    replace H := ((((H.del 3).del 2).del 1).del 0)
    dsimp only [setL, delL] at H
    refine W.ret ?_
    refine seqQ_ret ?_
    refine endG (by rfl) (by exact resL_tmp rfl) ?_
    exact rfl
   ·have hc11b := hc11
    have hhas := hc11b
    refine RW.val (by rfl) (by kernel_rfl) rfl (by kernel_rfl) ?_
    refine RW.val (by rfl) (by kernel_rfl) rfl (by kernel_rfl) ?_
    iterate 2 refine RW.v ?_
    refine RW.both _ _ rfl rfl rfl (fun hc12 => ?_) (fun hc12 => ?_)
    ·have hc12b := hc12
     have hc12 := bne_iff_ne.1 hc12
     refine RW.skip (by rfl) (by kernel_rfl) ?_
     refine RW.skip (by rfl) (by kernel_rfl) ?_
     refine RW.skip (by rfl) (by kernel_rfl) ?_
     refine RW.v ?_
     refine RW.nil ?_
     refine ⟨⟨by kernel_rfl, ⟨trivial, trivial, trivial, trivial, trivial, trivial, trivial, trivial, trivial, trivial, trivial⟩⟩, ?_⟩
     replace H := H10
     clear H10
     refine W.c1 ?_
     refine W.seq (W.region ?_)
     refine RW.v ?_
     refine RW.nil ?_
     replace H := ((((H.del 3).del 2).del 1).del 0)
     dsimp only [setL, delL] at H
     refine W.ret ?_
     refine seqQ_ret ?_
     refine endG (by rfl) (by exact resL_tmp rfl) ?_
     exact rfl
    ·have hc12b := hc12
     have hc12 := (bne_eq_false_iff_eq.1) hc12
     have hdep : depE m3 w es = 0 := by simpa using hc12b
     refine RW.ldL H10 1 2 (by rfl) (by kernel_rfl) rfl rfl rfl rfl rfl (by kernel_rfl) ?_
     refine RW.cl (hw := by rfl) ?_
     refine ⟨_, _, s_nilK (G := G66), ?_⟩
     refine RW.vop (v := .bool (w.1 == 1 && w.2 == 0)) (by rfl) (by kernel_rfl) (vop_eqS (b := (w.1 == 1 && w.2 == 0)) (r := (w.1 == 1 && w.2 == 0)) rfl (.inl ⟨rfl, rfl⟩) rfl rfl rfl rfl (by kernel_rfl) (fun w => eqWd _ _ _ _ w)) (by kernel_rfl) ?_
     refine RW.v ?_
     refine RW.nil ?_
     refine ⟨⟨by kernel_rfl, ⟨trivial, trivial, trivial, trivial, trivial, trivial, dyn_row (H10.get 1 rfl) (H10.get 1 rfl) ⟨fun h => Bool.noConfusion h, fun h => Bool.noConfusion h, fun h => Bool.noConfusion h, fun h => Bool.noConfusion h, fun h => Bool.noConfusion h, fun h => Bool.noConfusion h, fun h => Bool.noConfusion h, fun _ => H10.get 1 rfl, fun h => Bool.noConfusion h, fun h => Bool.noConfusion h, trivial⟩, trivial, trivial, trivial, trivial⟩⟩, ?_⟩
     replace H := H10
     clear H10
     refine W.rg [(2, v2), (4, .int .i64 dp), (11, pp h), (13, pp b4), (14, pp b5), (15, pp b6), (16, slwas), (105, .bool (w.1 == 1 && w.2 == 0))] fun TA => ?_
     refine W.cond rfl (fun hc13 => ?_) (fun hc13 => ?_)
     ·have hc13b := hc13
      refine W.seq (W.region ?_)
      refine RW.v ?_
      refine RW.nil ?_
      replace H := ((((H.del 3).del 2).del 1).del 0)
      dsimp only [setL, delL] at H
      refine W.ret ?_
      refine seqQ_ret ?_
      refine endG (by rfl) (by exact resL_tmp rfl) ?_
      exact rfl
     ·have hc13b := hc13
      have hnil := hc13b
      refine W.skip ?_
      refine W.seq ?_
      refine W.drawn (by kernel_rfl) (by kernel_rfl) H.gn ?_
      have H14 := H
      refine RW.v ?_
      refine RW.ld H14 3 2 ?_
      refine RW.ld H14 2 2 ?_
      refine RW.ld H14 1 2 ?_
      refine RW.v ?_
      refine RW.cl ?_
      refine ⟨_, _, (s_pick (G := G66) (dp) 201 (by omega) (by omega) (by decide) (by decide)), ?_⟩
      have hp15 := pickOf_in dp (show (0 : Int) < 201 by decide)
      refine RW.valE (v' := .int .i64 ((pickOf dp 201) - 100)) (by kernel_rfl) (by kernel_rfl) rfl (congrArg (Value.int .i64) (wrap_in (by omega) (by omega))) (by kernel_rfl) ?_
      refine RW.cl ?_
      refine ((addB (h := h) (m := m3) (ws := ws) (es := es) (d := (pickOf dp 201) - 100) H14.gn H14.abs lo3 (hN.le H14.old) hEl hQ (by omega) hlw gw hnil gws2 hhas hes hF3 (by omega) (by omega) (by omega) (by omega)).mono ?_)
      rintro _ _ ⟨m4, xw, qw, xs, qs, rfl, E4, hXl, hQl, AX, AQ, K16⟩
      have H17 := H14.then K16
      dsimp only [List.nil_append, List.cons_append] at H17
      have M4 : m4.many ≤ 101 := by have := E4.many; omega
      have L4 : m4.limit = 2000 := E4.lim.trans L3
      have lo4 : 0 < m4.limit := by omega
      have gw4 := (gw.mono' E4.finds).1
      have kw4 := (gw.mono' E4.finds).2
      have gxs : ∀ y ∈ xs, Fine y ∧ Good m4 y := fun y hy => by rcases AX.all y hy with rfl | hy2; exact ⟨hw, gw4⟩; exact ⟨(gws y hy2).1, ((gws y hy2).2.mono' E4.finds).1⟩
      have gxs2 : ∀ y ∈ xs, Good m4 y := fun y hy => (gxs y hy).2
      have hX : ElemR m4 xw xs := hXl.elem fun y hy => (gxs y hy).1
      have hlx := AX.len
      have hlq := AQ.len
      have hF4 := E4.free
      have hh4 : hasW m4 w xs = true := has_true AX.mem rfl
      iterate 4 refine RW.v ?_
      refine RW.mkD H17 (x := .row ⟨[.int .i64 0, .int .i64 0], 27, false⟩) (fm := fun b => .pointer (some ⟨b, 0, none⟩)) (by kernel_rfl) (by kernel_rfl) (by kernel_rfl) (by kernel_rfl) ?_
      intro _ b18 H19
      refine RW.mkD H19 (x := .row ⟨[.int .i64 0, .int .i64 0], 27, false⟩) (fm := fun b => .pointer (some ⟨b, 0, none⟩)) (by kernel_rfl) (by kernel_rfl) (by kernel_rfl) (by kernel_rfl) ?_
      intro _ b20 H21
      refine RW.stD H21 1 (vs := [.int .i64 xw.1, .int .i64 xw.2]) (cs' := [.int .i64 xw.1, .int .i64 xw.2]) (by kernel_rfl) (by kernel_rfl) rfl rfl rfl rfl rfl (by kernel_rfl) (Nat.le_of_ble_eq_true rfl) rfl (by kernel_rfl) ?_
      intro _ H22
      dsimp only [setL, delL] at H22
      refine RW.stD H22 0 (vs := [.int .i64 qw.1, .int .i64 qw.2]) (cs' := [.int .i64 qw.1, .int .i64 qw.2]) (by kernel_rfl) (by kernel_rfl) rfl rfl rfl rfl rfl (by kernel_rfl) (Nat.le_of_ble_eq_true rfl) rfl (by kernel_rfl) ?_
      intro _ H23
      dsimp only [setL, delL] at H23
      refine RW.v ?_
      refine RW.nil ?_
      refine ⟨⟨by kernel_rfl, ⟨trivial, dyn_row (H14.get 3 rfl) (H23.get 5 rfl) ⟨fun h => Bool.noConfusion h, fun h => Bool.noConfusion h, fun h => Bool.noConfusion h, fun h => Bool.noConfusion h, fun h => Bool.noConfusion h, fun _ => H14.get 3 rfl, fun h => Bool.noConfusion h, fun _ => H14.get 3 rfl, fun h => Bool.noConfusion h, fun h => Bool.noConfusion h, fun h => Bool.noConfusion h, fun h => Bool.noConfusion h, fun h => Bool.noConfusion h, fun h => Bool.noConfusion h, fun _ => H21.get 5 rfl, fun _ => H22.get 5 rfl, fun h => Bool.noConfusion h, trivial⟩, dyn_row (H14.get 2 rfl) (H23.get 4 rfl) ⟨fun h => Bool.noConfusion h, fun h => Bool.noConfusion h, fun h => Bool.noConfusion h, fun h => Bool.noConfusion h, fun h => Bool.noConfusion h, fun _ => H14.get 2 rfl, fun h => Bool.noConfusion h, fun _ => H14.get 2 rfl, fun h => Bool.noConfusion h, fun h => Bool.noConfusion h, fun h => Bool.noConfusion h, fun h => Bool.noConfusion h, fun h => Bool.noConfusion h, fun h => Bool.noConfusion h, fun _ => H21.get 4 rfl, fun _ => H22.get 4 rfl, fun h => Bool.noConfusion h, trivial⟩, dyn_row (H14.get 1 rfl) (H23.get 3 rfl) ⟨fun h => Bool.noConfusion h, fun h => Bool.noConfusion h, fun h => Bool.noConfusion h, fun h => Bool.noConfusion h, fun h => Bool.noConfusion h, fun _ => H14.get 1 rfl, fun h => Bool.noConfusion h, fun _ => H14.get 1 rfl, fun h => Bool.noConfusion h, fun h => Bool.noConfusion h, fun h => Bool.noConfusion h, fun h => Bool.noConfusion h, fun h => Bool.noConfusion h, fun h => Bool.noConfusion h, fun _ => H21.get 3 rfl, fun _ => H22.get 3 rfl, fun h => Bool.noConfusion h, trivial⟩, trivial, trivial, trivial, trivial, trivial, trivial, trivial, trivial, Or.inl (by kernel_rfl), Or.inl (by kernel_rfl), trivial, trivial, trivial, trivial⟩⟩, ?_⟩
      replace H := H23
      clear H14 H17 H19 H21 H22 H23
      refine W.rg [(2, v2), (11, pp h), (13, pp b4), (14, pp b5), (15, pp b6), (16, slwas), (22, pp b18), (23, pp b20), (24, .int .i64 0)] fun TA => ?_
      refine W.seq (W.region ?_)
      refine RW.v ?_
      refine RW.ld H 1 2 ?_
      refine RW.ld H 3 2 ?_
      refine RW.cl ?_
      refine ((has_wc (h := h) (m := m4) (ws := xs) H.gn H.abs lo4 (hN.le H.old) (hX.elems lo4 (by omega)) (by omega) gw4 gxs2).mono ?_)
      rintro _ _ ⟨e, K⟩
      replace H := H.then K
      clear K
      dsimp only [List.nil_append, List.cons_append] at H
      rw [hh4] at e
      subst e
      iterate 5 refine RW.v ?_
      refine RW.nil ?_
      refine W.rg [(2, v2), (11, pp h), (13, pp b4), (14, pp b5), (15, pp b6), (16, slwas), (22, pp b18), (23, pp b20), (24, .int .i64 0), (25, .bool true), (26, .int .i64 0)] fun TA => ?_
      refine W.seq (W.region ?_)
      refine RW.v ?_
      refine RW.ld H 1 2 ?_
      refine RW.ld H 0 2 ?_
      refine RW.ld H 3 2 ?_
      refine RW.cl ?_
      refine ((removeB (h := h) (m := m4) (ws := xs) (es := qs) H.gn H.abs lo4 (hN.le H.old) hX hQl (by omega) (by omega) gw4 gxs AQ.dep hF4 (by omega) (by omega)).mono ?_)
      rintro _ _ ⟨m5, yw, rw, rfl, E5, hY0, hR0, _, K⟩
      replace H := H.then K
      clear K
      dsimp only [List.nil_append, List.cons_append] at H
      have M5 : m5.many ≤ 127 := by have := E5.many; omega
      have L5 : m5.limit = 2000 := E5.lim.trans L4
      have lo5 : 0 < m5.limit := by omega
      have gw5 := (gw4.mono' E5.finds).1
      have kw5 := (gw4.mono' E5.finds).2
      obtain ⟨ys, hys⟩ : ∃ ys, ys = xs.filter fun y => !decide (keyW m4 w = keyW m4 y) := ⟨_, rfl⟩
      obtain ⟨rs, hrs⟩ : ∃ rs, rs = qs.filter fun y => !selE m4 w y := ⟨_, rfl⟩
      rw [← hys] at hY0
      rw [← hrs] at hR0
      have hye : ys = xs.filter fun y => !decide (keyW m3 w = keyW m3 y) := by rw [hys]; refine List.filter_congr fun y hy => ?_; rw [kw4]; rcases AX.all y hy with rfl | hy2; rw [kw4]; rw [((gws y hy2).2.mono' E4.finds).2]
      have hyp : ys.Perm ws := hye ▸ AX.perm
      have hyn : es = [] → ys = ws := fun e => hye.trans (AX.nil e)
      have hly : ys.length = ws.length := hyp.length_eq
      have hlr : rs.length ≤ 13 := by rw [hrs]; exact Nat.le_trans (List.length_filter_le _ _) (by omega)
      have gys : ∀ y ∈ ys, y ∈ xs := fun y hy => by rw [hys] at hy; exact (List.mem_filter.1 hy).1
      have hY := hY0
      have gys2 : ∀ y ∈ ys, Good m5 y := fun y hy => ((gxs2 y (gys y hy)).mono' E5.finds).1
      have hrs4 : ∀ y ∈ rs, DepE m4 y := fun y hy => by rw [hrs] at hy; exact AQ.dep y (List.mem_filter.1 hy).1
      have hrs5 : ∀ y ∈ rs, DepE m5 y := fun y hy => (hrs4 y hy).mono E5.finds
      have hR5 := hR0
      have hes5 : ∀ y ∈ es, DepE m5 y := fun y hy => (hes y hy).mono (E4.finds.trans E5.finds)
      have hQ5 := hQ.mono (E4.finds.trans E5.finds)
      have hh5 : hasW m5 w ys = false := by rw [has_mono E5.finds gw4 fun y hy => gxs2 y (gys y hy), hys]; exact has_filter
      have hF5 := E5.free
      have hK : ∀ k, dK k (keysE m5 rs) = dK k (keysE m5 es) := fun k => by rw [keysE_mono E5.finds hrs4, hrs, keysE_filter, keysE_mono (E4.finds.trans E5.finds) hes, kw4]; exact keys_same AQ.keys (by rw [← depE_keys]; exact hdep) k
      have hfl : (flatL ys []).length = (flatL ws []).length := flat_perm hyp
      iterate 4 refine RW.v ?_
      refine RW.mk H (.row ⟨[.int .i64 0, .int .i64 0], 27, false⟩) ?_
      clear H; intro _ b24 _ H
      refine RW.mk H (.row ⟨[.int .i64 0, .int .i64 0], 27, false⟩) ?_
      clear H; intro _ b25 _ H
      refine RW.st H 1 [.int .i64 yw.1, .int .i64 yw.2] [.int .i64 yw.1, .int .i64 yw.2] ?_
      clear H; intro _ _ H; dsimp only [setL, delL] at H
      refine RW.st H 0 [.int .i64 rw.1, .int .i64 rw.2] [.int .i64 rw.1, .int .i64 rw.2] ?_
      clear H; intro _ _ H; dsimp only [setL, delL] at H
      refine RW.v ?_
      refine RW.nil ?_
      replace H := ((H.del 3).del 2)
      dsimp only [setL, delL] at H
      refine W.rg [(2, v2), (11, pp h), (13, pp b4), (14, pp b5), (15, pp b6), (16, slwas), (24, .int .i64 0), (25, .bool true), (26, .int .i64 0), (27, pp b24), (28, pp b25), (29, .int .i64 0)] fun TA => ?_
      refine W.seq (W.region ?_)
      refine RW.v ?_
      refine RW.ld H 1 2 ?_
      refine RW.ld H 3 2 ?_
      refine RW.cl ?_
      refine ((has_wc (h := h) (m := m5) (ws := ys) H.gn H.abs lo5 (hN.le H.old) (hY.elems lo5 (by omega)) (by omega) gw5 gys2).mono ?_)
      rintro _ _ ⟨e, K⟩
      replace H := H.then K
      clear K
      dsimp only [List.nil_append, List.cons_append] at H
      rw [hh5] at e
      subst e
      iterate 5 refine RW.v ?_
      refine RW.nil ?_
      refine W.rg [(2, v2), (11, pp h), (13, pp b4), (14, pp b5), (15, pp b6), (16, slwas), (24, .int .i64 0), (25, .bool true), (26, .int .i64 0), (27, pp b24), (28, pp b25), (29, .int .i64 0), (30, .bool false), (31, .int .i64 0)] fun TA => ?_
      refine W.seq ?_
      refine W.drawn (by kernel_rfl) (by kernel_rfl) H.gn ?_
      have H26 := H
      refine RW.v ?_
      refine RW.ld H26 1 2 ?_
      refine RW.cl ?_
      refine ⟨_, _, s_nilK (G := G66), ?_⟩
      refine RW.cl ?_
      refine ((functions_wc (h := h) (m := m5) (ws := ys) (us := []) H26.gn H26.abs lo5 (hY.elems lo5 (by omega)) ((elemR_nil m5).elems lo5 (by decide)) (by omega) (by decide) (hN.le H26.old) (hTee.le H26.old)).mono ?_)
      rintro _ _ ⟨slnow, rfl, K27⟩
      have H28 := H26.then K27
      dsimp only [List.nil_append, List.cons_append] at H28
      iterate 5 refine RW.v ?_
      refine RW.nil ?_
      refine ⟨⟨by kernel_rfl, ⟨trivial, dyn_row (H26.get 1 rfl) (H28.get 2 rfl) ⟨fun h => Bool.noConfusion h, fun h => Bool.noConfusion h, fun _ => H26.get 1 rfl, fun _ => H26.get 1 rfl, fun h => Bool.noConfusion h, fun h => Bool.noConfusion h, fun h => Bool.noConfusion h, fun h => Bool.noConfusion h, fun h => Bool.noConfusion h, trivial⟩, trivial, trivial, trivial, trivial, trivial, trivial, trivial, trivial⟩⟩, ?_⟩
      replace H := H28
      clear H26 H28
      replace H := (H.del 2)
      dsimp only [setL, delL] at H
      refine W.rg [(2, v2), (11, pp h), (13, pp b4), (14, pp b5), (15, pp b6), (16, slwas), (24, .int .i64 0), (25, .bool true), (26, .int .i64 0), (28, pp b25), (29, .int .i64 0), (30, .bool false), (31, .int .i64 0), (32, slnow), (33, .int .i64 0)] fun TA => ?_
      refine W.seq ?_
      refine W.seq (W.region ?_)
      iterate 3 refine RW.v ?_
      refine RW.val (by rfl) (by kernel_rfl) rfl (by kernel_rfl) ?_
      refine RW.val (by rfl) (by kernel_rfl) rfl (by kernel_rfl) ?_
      iterate 2 refine RW.v ?_
      refine RW.val (by rfl) (by kernel_rfl) rfl (by kernel_rfl) ?_
      refine RW.val (by rfl) (by kernel_rfl) rfl (by kernel_rfl) ?_
      iterate 2 refine RW.v ?_
      refine RW.val (by rfl) (by kernel_rfl) rfl (by kernel_rfl) ?_
      refine RW.val (by rfl) (by kernel_rfl) rfl (by kernel_rfl) ?_
      iterate 2 refine RW.v ?_
      refine RW.val (by rfl) (by kernel_rfl) rfl (by kernel_rfl) ?_
      refine RW.val (by rfl) (by kernel_rfl) rfl (by kernel_rfl) ?_
      iterate 2 refine RW.v ?_
      refine RW.val (by rfl) (by kernel_rfl) rfl (by kernel_rfl) ?_
      iterate 2 refine RW.v ?_
      refine RW.val (by rfl) (by kernel_rfl) rfl (by kernel_rfl) ?_
      refine RW.val (by rfl) (by kernel_rfl) rfl (by kernel_rfl) ?_
      refine RW.v ?_
      refine RW.nil ?_
      refine W.c0 ?_
      refine W.skip ?_
      refine W.seq ?_
      refine W.seq (W.region ?_)
      refine RW.v ?_
      refine RW.nil ?_
      refine W.rg [(2, v2), (11, pp h), (13, pp b4), (14, pp b5), (15, pp b6), (16, slwas), (28, pp b25), (32, slnow), (34, .int .i64 0)] fun TA => ?_
      refine W.block ?_
      refine W.loop (fun mm ta σ => ∃ (a : Nat) (m6 : HM), (mm + a = 8) ∧ (ExtH m5 m6 (4 * a)) ∧ Lies G66 (heapAbs h m6) F σ [.sl 27 2 slnow ((flatL ys []).length) (wdC (flatL ys [])), .at_ b25 (.row ⟨[.int .i64 rw.1, .int .i64 rw.2], 27, false⟩), .sl 27 2 slwas ((flatL ws []).length) (wdC (flatL ws [])), .at_ b6 (.row ⟨[.int .i64 w.1, .int .i64 w.2], 27, false⟩), .at_ b5 (.row ⟨[.int .i64 p.1, .int .i64 p.2], 27, false⟩), .at_ b4 (.row ⟨[.int .i64 vw.1, .int .i64 vw.2], 27, false⟩)] ∧ ta 2 = v2 ∧ ta 11 = .pointer (some ⟨h, 0, none⟩) ∧ ta 13 = .pointer (some ⟨b4, 0, none⟩) ∧ ta 14 = .pointer (some ⟨b5, 0, none⟩) ∧ ta 15 = .pointer (some ⟨b6, 0, none⟩) ∧ ta 16 = slwas ∧ ta 28 = .pointer (some ⟨b25, 0, none⟩) ∧ ta 32 = slnow ∧ ta 34 = .int .i64 ((a : Nat) : Int)) 8 ?_ ?_
      ·exact ⟨0, m5, (by omega), ((ExtH.refl hF5).le (by omega)), H, rfl, rfl, rfl, rfl, rfl, rfl, rfl, rfl, rfl⟩
      clear H
      rintro mm ta _ ⟨a, m6, hm, E6, H, e2, e11, e13, e14, e15, e16, e28, e32, e34⟩
      refine W.rst [(2, v2), (11, .pointer (some ⟨h, 0, none⟩)), (13, .pointer (some ⟨b4, 0, none⟩)), (14, .pointer (some ⟨b5, 0, none⟩)), (15, .pointer (some ⟨b6, 0, none⟩)), (16, slwas), (28, .pointer (some ⟨b25, 0, none⟩)), (32, slnow), (34, .int .i64 ((a : Nat) : Int))] ⟨e2, e11, e13, e14, e15, e16, e28, e32, e34, trivial⟩ fun TA => ?_
      clear e2 e11 e13 e14 e15 e16 e28 e32 e34
      refine W.seq ?_
      refine W.seq (W.region ?_)
      iterate 2 refine RW.v ?_
      refine RW.nil ?_
      refine W.rg [(2, v2), (11, pp h), (13, pp b4), (14, pp b5), (15, pp b6), (16, slwas), (28, pp b25), (32, slnow), (34, .int .i64 ((a : Nat) : Int)), (174, .bool (decide (((a : Nat) : Int) < 8)))] fun TA => ?_
      refine W.cond rfl (fun hc29 => ?_) (fun hc29 => ?_)
      ·have hc29b := hc29
       have hc29 := of_decide_eq_true hc29
       refine W.skip ?_
       refine W.seq ?_
       refine W.block ?_
       refine W.seq ?_
       refine W.drawn (by kernel_rfl) (by kernel_rfl) H.gn ?_
       have H30 := H
       refine RW.v ?_
       refine RW.ld H30 4 2 ?_
       iterate 2 refine RW.v ?_
       refine RW.cl ?_
       refine ((word3_wc (h := h) (m := m6) ((a : Nat) : Int) H30.gn H30.abs E6.free (by have := E6.many; have := E6.lim; omega) (by have := E6.lim; omega) (by omega) (by omega)).mono ?_)
       rintro _ _ ⟨m7, u, rfl, E7s, hwu, gwu, kwu, K31⟩
       have H32 := H30.then K31
       dsimp only [List.nil_append, List.cons_append] at H32
       have E7 := E6.trans E7s
       refine RW.cl ?_
       refine ((DepthE_wc (h := h) (m := m7) (es := es) H32.gn H32.abs (by have := E7.lim; omega) (by omega) (hQ5.mono E7.finds).choose_spec.1 (hQ5.mono E7.finds).choose_spec.2 gwu (fun y hy => (hes5 y hy).mono E7.finds)).mono ?_)
       rintro _ _ ⟨rfl, K33⟩
       have H34 := H32.then K33
       dsimp only [List.nil_append, List.cons_append] at H34
       iterate 5 refine RW.v ?_
       refine RW.nil ?_
       refine ⟨⟨by kernel_rfl, ⟨trivial, dyn_row (H30.get 4 rfl) (H34.get 4 rfl) ⟨fun h => Bool.noConfusion h, fun h => Bool.noConfusion h, fun h => Bool.noConfusion h, fun h => Bool.noConfusion h, fun _ => H30.get 4 rfl, fun _ => H32.get 4 rfl, fun h => Bool.noConfusion h, fun h => Bool.noConfusion h, fun h => Bool.noConfusion h, fun h => Bool.noConfusion h, fun h => Bool.noConfusion h, trivial⟩, trivial, trivial, trivial, trivial, trivial, trivial, trivial, trivial, trivial, trivial⟩⟩, ?_⟩
       replace H := H34
       clear H30 H32 H34
       refine W.rg [(2, v2), (11, pp h), (13, pp b4), (14, pp b5), (15, pp b6), (16, slwas), (28, pp b25), (32, slnow), (34, .int .i64 ((a : Nat) : Int)), (35, .int .i64 (depE m7 u es)), (36, .int .i64 0)] fun TA => ?_
       refine W.seq ?_
       refine W.drawn (by kernel_rfl) (by kernel_rfl) H.gn ?_
       have H35 := H
       refine RW.v ?_
       refine RW.ld H35 1 2 ?_
       iterate 2 refine RW.v ?_
       refine RW.cl ?_
       refine ((word3_wc (h := h) (m := m7) ((a : Nat) : Int) H35.gn H35.abs E7.free (by have := E7.many; have := E7.lim; omega) (by have := E7.lim; omega) (by omega) (by omega)).mono ?_)
       rintro _ _ ⟨m8, v, rfl, E8s, hwv, gwv, kwv, K36⟩
       have H37 := H35.then K36
       dsimp only [List.nil_append, List.cons_append] at H37
       have E8 := E7.trans E8s
       refine RW.cl ?_
       refine ((DepthE_wc (h := h) (m := m8) (es := rs) H37.gn H37.abs (by have := E8.lim; omega) (by omega) (hR5.mono E8.finds).choose_spec.1 (hR5.mono E8.finds).choose_spec.2 gwv (fun y hy => (hrs5 y hy).mono E8.finds)).mono ?_)
       rintro _ _ ⟨rfl, K38⟩
       have H39 := H37.then K38
       dsimp only [List.nil_append, List.cons_append] at H39
       iterate 5 refine RW.v ?_
       refine RW.nil ?_
       refine ⟨⟨by kernel_rfl, ⟨trivial, dyn_row (H35.get 1 rfl) (H39.get 1 rfl) ⟨fun h => Bool.noConfusion h, fun h => Bool.noConfusion h, fun h => Bool.noConfusion h, fun h => Bool.noConfusion h, fun _ => H35.get 1 rfl, fun _ => H37.get 1 rfl, fun h => Bool.noConfusion h, fun h => Bool.noConfusion h, fun h => Bool.noConfusion h, fun h => Bool.noConfusion h, fun h => Bool.noConfusion h, trivial⟩, trivial, trivial, trivial, trivial, trivial, trivial, trivial, trivial, trivial, trivial⟩⟩, ?_⟩
       replace H := H39
       clear H35 H37 H39
       refine W.rg [(2, v2), (11, pp h), (13, pp b4), (14, pp b5), (15, pp b6), (16, slwas), (28, pp b25), (32, slnow), (34, .int .i64 ((a : Nat) : Int)), (35, .int .i64 (depE m7 u es)), (36, .int .i64 0), (37, .int .i64 (depE m8 v rs)), (38, .int .i64 0)] fun TA => ?_
       refine W.seq (W.region ?_)
       iterate 3 refine RW.v ?_
       refine RW.val (by rfl) (by kernel_rfl) rfl (by kernel_rfl) ?_
       refine RW.val (by rfl) (by kernel_rfl) rfl (by kernel_rfl) ?_
       iterate 2 refine RW.v ?_
       refine RW.val (by rfl) (by kernel_rfl) rfl (by kernel_rfl) ?_
       refine RW.val (by rfl) (by kernel_rfl) rfl (by kernel_rfl) ?_
       refine RW.valE (v' := .bool false) (by rfl) (by kernel_rfl) rfl (congrArg Value.bool (bne_eq_false_iff_eq.2 (by first | (rw [depE_keys, depE_keys, keysE_mono E7.finds hes5, keysE_mono E8.finds hrs5, kwu, kwv]; exact (hK _).symm) | omega))) (by kernel_rfl) ?_
       refine RW.v ?_
       refine RW.nil ?_
       refine W.c0 ?_
       refine W.skip ?_
       refine blkQ_normal ?_
       refine W.region ?_
       refine RW.v ?_
       refine RW.valE (v' := .int .i64 (((a : Nat) : Int) + 1)) (by kernel_rfl) (by kernel_rfl) rfl (congrArg (Value.int .i64) (wrap_in (by omega) (by omega))) (by kernel_rfl) ?_
       refine RW.v ?_
       refine RW.nil ?_
       exact ⟨rfl, mm - 1, by omega, a + 1, m8, (by omega), (E8.le (by omega)), H, rfl, rfl, rfl, rfl, rfl, rfl, rfl, rfl, rfl⟩
      ·have hc29b := hc29
       have hc29 := of_decide_eq_false hc29
       refine W.exit _ ?_
       refine seqQ_exit ?_
       refine rndQ_exit ?_
       have F36 := E4.finds.trans (E5.finds.trans E6.finds)
       refine blkQ_here ?_
       refine W.seq (W.region ?_)
       refine RW.v ?_
       refine RW.ld H 5 2 ?_
       refine RW.ld H 4 2 ?_
       refine RW.ld H 3 2 ?_
       refine RW.cl ?_
       refine ((removeB (h := h) (m := m6) (ws := ws) (es := es) H.gn H.abs (by have := E6.lim; omega) (hN.le H.old) (hEl.mono F36) (hQ.mono F36) (by omega) (by omega) (gw.mono' F36).1 (fun y hy => ⟨(gws y hy).1, ((gws y hy).2.mono' F36).1⟩) (fun y hy => (hes y hy).mono F36) E6.free (by have := E6.lim; have := E6.many; omega) (by have := E6.lim; omega)).mono ?_)
       rintro _ _ ⟨m9, zw, zq, rfl, E9, _, _, hz, K⟩
       replace H := H.then K
       clear K
       dsimp only [List.nil_append, List.cons_append] at H
       have hz := (hz (by rw [has_mono F36 gw gws2]; exact hhas)).symm
       subst hz
       iterate 4 refine RW.v ?_
       refine RW.mk H (.row ⟨[.int .i64 0, .int .i64 0], 27, false⟩) ?_
       clear H; intro _ b40 _ H
       refine RW.mk H (.row ⟨[.int .i64 0, .int .i64 0], 27, false⟩) ?_
       clear H; intro _ b41 _ H
       refine RW.st H 1 [.int .i64 vw.1, .int .i64 vw.2] [.int .i64 vw.1, .int .i64 vw.2] ?_
       clear H; intro _ _ H; dsimp only [setL, delL] at H
       refine RW.st H 0 [.int .i64 zq.1, .int .i64 zq.2] [.int .i64 zq.1, .int .i64 zq.2] ?_
       clear H; intro _ _ H; dsimp only [setL, delL] at H
       refine RW.v ?_
       refine RW.nil ?_
       replace H := ((((H.del 6).del 5).del 3).del 0)
       dsimp only [setL, delL] at H
       refine W.rg [(2, v2), (13, pp b4), (16, slwas), (32, slnow), (39, pp b40), (41, .int .i64 0)] fun TA => ?_
       refine W.seq (W.region ?_)
       iterate 3 refine RW.v ?_
       refine RW.ldL H 0 2 (by rfl) (by kernel_rfl) rfl rfl rfl rfl rfl (by kernel_rfl) ?_
       refine RW.ldL H 3 2 (by rfl) (by kernel_rfl) rfl rfl rfl rfl rfl (by kernel_rfl) ?_
       refine RW.vop (v := .bool true) (by rfl) (by kernel_rfl) (vop_eqS (b := true) (r := true) rfl (.inl ⟨rfl, rfl⟩) rfl rfl rfl rfl (by kernel_rfl) (fun w => (eqWd _ _ _ _ w).trans (by simp))) (by kernel_rfl) ?_
       iterate 2 refine RW.v ?_
       refine RW.val (by rfl) (by kernel_rfl) rfl (by kernel_rfl) ?_
       refine RW.len (by rfl) (by kernel_rfl) rfl rfl rfl rfl ((H.sl 1 rfl).len (by kernel_rfl)) (by kernel_rfl) ?_
       refine RW.val (by rfl) (by kernel_rfl) rfl (by kernel_rfl) ?_
       refine RW.len (by rfl) (by kernel_rfl) rfl rfl rfl rfl ((H.sl 2 rfl).len (by kernel_rfl)) (by kernel_rfl) ?_
       refine RW.valE (v' := .bool true) (by rfl) (by kernel_rfl) rfl (congrArg Value.bool (beq_iff_eq.2 (by omega))) (by kernel_rfl) ?_
       iterate 2 refine RW.v ?_
       refine RW.val (by rfl) (by kernel_rfl) rfl (by kernel_rfl) ?_
       refine RW.len (by rfl) (by kernel_rfl) rfl rfl rfl rfl (hd.len (e := 110) (by kernel_rfl)) (by kernel_rfl) ?_
       refine RW.val (by rfl) (by kernel_rfl) rfl (by kernel_rfl) ?_
       refine RW.val (by rfl) (by kernel_rfl) rfl (by kernel_rfl) ?_
       refine RW.both _ _ rfl rfl rfl (fun hc42 => ?_) (fun hc42 => ?_)
       ·have hc42b := hc42
        have hc42 := of_decide_eq_true hc42
        refine RW.skip (by rfl) (by kernel_rfl) ?_
        refine RW.skip (by rfl) (by kernel_rfl) ?_
        refine RW.skip (by rfl) (by kernel_rfl) ?_
        refine RW.val (by rfl) (by kernel_rfl) rfl (by kernel_rfl) ?_
        iterate 2 refine RW.v ?_
        refine RW.nil ?_
        replace H := ((((H.del 3).del 2).del 1).del 0)
        dsimp only [setL, delL] at H
        refine W.ret ?_
        refine endG (by rfl) (by exact resL_tmp rfl) ?_
        exact rfl
       ·have hc42b := hc42
        have hc42 := of_decide_eq_false hc42
        have hesn : es = [] := List.length_eq_zero_iff.1 (by omega)
        refine RW.val (by rfl) (by kernel_rfl) rfl (by kernel_rfl) ?_
        refine RW.val (by rfl) (by kernel_rfl) rfl (by kernel_rfl) ?_
        obtain ⟨F, leA, hSA, H⟩ := H.freezeSl 1 rfl
        dsimp only [setL, delL] at H
        replace hl := hl.le leA
        replace hd := hd.le leA
        replace hN := hN.le leA
        replace hTee := hTee.le leA
        clear leA
        obtain ⟨F, leB, hSB, H⟩ := H.freezeSl 1 rfl
        dsimp only [setL, delL] at H
        replace hl := hl.le leB
        replace hd := hd.le leB
        replace hN := hN.le leB
        replace hTee := hTee.le leB
        replace hSA := hSA.le leB
        clear leB
        refine RW.cl (hw := by rfl) ?_
        refine ((same_lies (G := G66) (l1 := (flatL ys [])) (l2 := (flatL ws [])) H hSA hSB (by rw [hyn hesn]) (by have := flat_le (ws := ys) (us := []) (by omega) (by decide) ys.length; rw [flat_all] at this; omega)).mono ?_)
        rintro _ _ ⟨rfl, e⟩
        subst e
        refine RW.val (by rfl) (by kernel_rfl) rfl (by kernel_rfl) ?_
        iterate 2 refine RW.v ?_
        refine RW.nil ?_
        replace H := ((H.del 1).del 0)
        dsimp only [setL, delL] at H
        refine W.ret ?_
        refine endG (by rfl) (by exact resL_tmp rfl) ?_
        exact rfl
end Go.Proofs.YtaaebeiigkhcjaaGreatDoor
