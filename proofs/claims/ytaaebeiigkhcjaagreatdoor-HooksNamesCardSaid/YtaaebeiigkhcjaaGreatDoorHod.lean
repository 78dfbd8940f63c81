/-
 Add of the package hooks. Conditions: the heap lies there as HeapAt says.
-/
import Derived.Test.YtaaebeiigkhcjaaGreatDoorQ1
import Derived.Test.YtaaebeiigkhcjaaGreatDoorHoa
import Derived.Test.YtaaebeiigkhcjaaGreatDoorK1
import Derived.Test.YtaaebeiigkhcjaaGreatDoorHkc
namespace Go.Proofs.YtaaebeiigkhcjaaGreatDoor
set_option maxRecDepth 100000
def rkOf (m : HM) (fs : List Rk) (y : Wd) : Rk := (y, depOf m y fs)
theorem rks_snoc {m : HM} {fs : List Rk} {ws : List Wd} {i : Nat} (hi : i < ws.length) : rkC ((ws.take i).map (rkOf m fs)) ++ [.int .i64 (ws.getD i (0, 0)).1, .int .i64 (ws.getD i (0, 0)).2, .int .i64 (depOf m (ws.getD i (0, 0)) fs)] = rkC ((ws.take (i + 1)).map (rkOf m fs)) := by
 rw [take_snoc hi, List.map_append]
 exact rkC_snoc _ (rkOf m fs (ws.getD i (0, 0)))
theorem outs_snoc {ys : List Rk} {j : Nat} (hj : j < ys.length) : wdC ((ys.take j).map Prod.fst) ++ [.int .i64 (ys.getD j rk0).1.1, .int .i64 (ys.getD j rk0).1.2] = wdC ((ys.take (j + 1)).map Prod.fst) := by
 rw [takeR_snoc hj, List.map_append]
 exact wdC_snoc _ (ys.getD j rk0).1
theorem grow_tail {P : Program} {σ : Mem} {t e : TypeId} {s n : Nat} {v : Value} {xs : List Value} (h : GRow G66 σ e s v n xs) (ht : uT P t = some (.slice e)) (hz : sizeT P e = some s) : ∃ v', sliceF P t v (some (.int .i64 ((n : Nat) : Int))) none none = some v' := by
 cases h with
 | nil => exact ⟨_, by simp only [sliceF, ht, hz, boundF]; rfl⟩
 | @row q _ c r _ hq hr hte hc hl hx =>
  have h1 : boundF (some (.int .i64 ((n : Nat) : Int))) 0 n = some n := by
   simp only [boundF]
   rw [if_pos (by omega), Int.toNat_natCast]
  exact ⟨.slice (some (if c = n then ⟨q, 0, some s⟩ else ⟨q, 0 + n * s, some s⟩)) (n - n) (c - n), by
   simp only [sliceF, ht, hz]
   rw [show boundF none n c = some n from rfl]
   simp only [h1]
   rw [if_pos ⟨trivial, hl⟩]⟩
section
variable {A : Abs} {F : Nat → Option Blk2} {σ : Mem} {L : List Ent} {v : Value} {n b : Nat} {h : Nat} {m : HM} {σ0 : Mem}
theorem cons_lies (a d : Wd) (H : Lies G66 (heapAbs h m) F σ L) (hm : m.many < m.limit) (hf : m.free = []) : WC G66 Tryz.prog 14 #[pp h, wdV a, wdV d] σ fun v σ' => v = .tuple #[wdV (2, (m.objs.length : Int)), .int .i64 0] ∧ Lies G66 (heapAbs h (m.push (.pair a d))) F σ' L :=
 ⟨_, _, s_cons a d H.abs hm hf, rfl, H.move (fun _ _ h => h) (Nat.le_refl _) rfl⟩
theorem ins_end {x : Rk} {xs : List Value} (hn : n ≤ 1000) (H : Lies G66 A F σ (.at_ b (.row ⟨[.int .i64 x.1.1, .int .i64 x.1.2, .int .i64 x.2], 79, false⟩) :: .sl 79 3 v n xs :: L)) :
  WC G66 Tryz.prog 45 #[v, .int .i64 ((n : Nat) : Int), .slice (some ⟨b, 0, none⟩) 1 1] σ fun r σ' => Lies G66 A F σ' (.sl 79 3 r (n + 1) (xs ++ [.int .i64 x.1.1, .int .i64 x.1.2, .int .i64 x.2]) :: L) := by
 refine WC.enter (fn := Tryz.f45) Tryz.func45 rfl ?_
 refine W.rg [(0, v), (1, .int .i64 ((n : Nat) : Int)), (2, .slice (some ⟨b, 0, none⟩) 1 1)] fun TA => ?_
 refine W.seq (W.region ?_)
 refine RW.v ?_
 refine RW.nil ?_
 refine W.rg [(0, v), (1, .int .i64 ((n : Nat) : Int)), (2, .slice (some ⟨b, 0, none⟩) 1 1)] fun TA => ?_
 refine W.seq (W.region ?_)
 iterate 2 refine RW.v ?_
 obtain ⟨vT, hT⟩ := grow_tail (P := Tryz.prog) (t := 76) (H.sl 1 rfl) (by kernel_rfl) (by kernel_rfl)
 refine RW.vop (v := vT) (by kernel_rfl) (by kernel_rfl) (vop_slice rfl hT) (by kernel_rfl) ?_
 refine RW.nil ?_
 refine W.rg [(0, v), (1, .int .i64 ((n : Nat) : Int)), (2, .slice (some ⟨b, 0, none⟩) 1 1)] fun TA => ?_
 refine W.seq (W.region ?_)
 iterate 3 refine RW.v ?_
 refine RW.nil ?_
 refine W.rg [(0, v), (1, .int .i64 ((n : Nat) : Int)), (2, .slice (some ⟨b, 0, none⟩) 1 1), (7, .int .i64 1)] fun TA => ?_
 refine W.seq ?_
 refine W.seq (W.region ?_)
 iterate 2 refine RW.v ?_
 refine RW.nil ?_
 refine W.c0 ?_
 refine W.skip ?_
 refine W.seq (W.region ?_)
 refine RW.v ?_
 refine RW.len (by kernel_rfl) (by kernel_rfl) rfl rfl rfl rfl ((H.sl 1 rfl).len (by kernel_rfl)) (by kernel_rfl) ?_
 refine RW.v ?_
 refine RW.nil ?_
 refine W.rg [(0, v), (1, .int .i64 ((n : Nat) : Int)), (2, .slice (some ⟨b, 0, none⟩) 1 1), (7, .int .i64 1), (8, .int .i64 ((n : Nat) : Int))] fun TA => ?_
 refine W.seq ?_
 refine W.seq (W.region ?_)
 iterate 2 refine RW.v ?_
 refine RW.valE (v' := .bool true) (by kernel_rfl) (by kernel_rfl) rfl (congrArg Value.bool (beq_iff_eq.2 (by rfl))) (by kernel_rfl) ?_
 refine RW.nil ?_
 refine W.c1 ?_
 refine W.seq (W.region ?_)
 iterate 2 refine RW.v ?_
 refine RW.appL H 1 0 (n := 1) (e2 := 79) (by kernel_rfl) (by kernel_rfl) rfl rfl rfl rfl rfl rfl rfl rfl (by kernel_rfl) (by kernel_rfl) (by kernel_rfl) (by decide) (by decide) rfl rfl (by omega) (by kernel_rfl) ?_
 clear H; intro _ v1 _ H
 dsimp only [setL, delL] at H
 refine RW.v ?_
 refine RW.nil ?_
 refine W.ret ?_
 refine seqQ_ret ?_
 refine endG (by rfl) (by exact resL_tmp rfl) ?_
 exact H
theorem insert_end {x : Rk} {l : List Rk} (hn : n ≤ 1000) (H : Lies G66 A F σ (.at_ b (.row ⟨[.int .i64 x.1.1, .int .i64 x.1.2, .int .i64 x.2], 79, false⟩) :: .sl 79 3 v n (rkC l) :: L)) :
  WC G66 Tryz.prog 45 #[v, .int .i64 ((n : Nat) : Int), .slice (some ⟨b, 0, none⟩) 1 1] σ fun r σ' => Lies G66 A F σ' (.sl 79 3 r (n + 1) (rkC (l ++ [x])) :: L) := by
 have := ins_end hn H
 rwa [rkC_snoc] at this
theorem insert_zero {x : Rk} {l : List Rk} (hn : n ≤ 1000) (H : Lies G66 A F σ (.at_ b (.row ⟨[.int .i64 x.1.1, .int .i64 x.1.2, .int .i64 x.2], 79, false⟩) :: .sl 79 3 v n (rkC l) :: L)) :
  WC G66 Tryz.prog 45 #[v, .int .i64 0, .slice (some ⟨b, 0, none⟩) 1 1] σ fun r σ' => Lies G66 A F σ' (.sl 79 3 r (n + 1) (rkC (x :: l)) :: L) := by
 rcases Nat.eq_zero_or_pos n with h0 | h0
 ·subst h0
  have hl := (H.sl 1 rfl).length
  obtain rfl : l = [] := by
   cases l with
   | nil => rfl
   | cons y l => rw [rkC_len] at hl; simp at hl
  exact insert_end (x := x) (l := []) hn H
 ·refine (insert_front h0 hn rfl (fun y hy => ?_) (fun y hy => ?_) H).mono fun r σ' ⟨v', e, K⟩ => by subst e; exact K.del 0
  ·obtain ⟨z, _, hz⟩ := List.mem_flatMap.1 hy
   simp only [List.mem_cons, List.not_mem_nil, or_false] at hz
   rcases hz with rfl | rfl | rfl <;> rfl
  ·simp only [List.mem_cons, List.not_mem_nil, or_false] at hy
   rcases hy with rfl | rfl | rfl <;> rfl
set_option maxHeartbeats 16000000 in
theorem add_found {vw p f : Wd} {c : Nat → Wd} {ws es : List Wd} {fs : List Rk} {d : Int} (hG : G66 ≤ σ0.next) (ha : σ0.abs = heapAbs h m) (hlo : 0 < m.limit) (hN : GNull σ0.get) (E : Elems G66 h m vw ws) (hx : c 0 = p) (hp : Chain m c es) (hn : es.length ≤ 65536) (hw12 : ws.length ≤ 12) (gf : Good m f) (hf0 : (f.1 == 1 && f.2 == 0) = false) (gws : ∀ y ∈ ws, Good m y) (h1 : -100 ≤ d) (h2 : d ≤ 100) (hF : hasW m f ws = true) :
  WC G66 Tryz.prog 11 #[pp h, wdV vw, wdV p, wdV f, .int .i64 d] σ0 fun r σ' => r = .tuple #[wdV vw, wdV p, .int .i64 0] ∧ Lies G66 (heapAbs h m) σ0.get σ' [] := by
 obtain ⟨tN, gN, hN⟩ := hN
 have hnw : ws.length ≤ 65536 := by omega
 have H := Lies.start hG ha
 generalize σ0.get = F at H hN ⊢
 refine WC.enter (fn := Tryz.f11) Tryz.func11 rfl ?_
 refine W.rg [(0, pp h), (1, .agg #[.int .i64 vw.1, .int .i64 vw.2]), (2, .agg #[.int .i64 p.1, .int .i64 p.2]), (3, .agg #[.int .i64 f.1, .int .i64 f.2]), (4, .int .i64 d)] fun TA => ?_
 refine W.seq (W.region ?_)
 refine RW.mk H (.row ⟨[.int .i64 vw.1, .int .i64 vw.2], 27, false⟩) ?_
 clear H; intro _ b1 _ H
 refine RW.mk H (.row ⟨[.int .i64 p.1, .int .i64 p.2], 27, false⟩) ?_
 clear H; intro _ b2 _ H
 refine RW.mk H (.row ⟨[.int .i64 f.1, .int .i64 f.2], 27, false⟩) ?_
 clear H; intro _ b3 _ H
 refine RW.mk H (.row ⟨[.int .i64 0, .int .i64 0], 27, false⟩) ?_
 clear H; intro _ b4 _ H
 refine RW.mk H (.row ⟨[.int .i64 0, .int .i64 0], 27, false⟩) ?_
 clear H; intro _ b5 _ H
 refine RW.v ?_
 refine RW.nil ?_
 refine W.rg [(0, pp h), (4, .int .i64 d), (6, pp b1), (7, pp b2), (8, pp b3), (10, pp b4), (11, pp b5)] fun TA => ?_
 refine W.seq (W.region ?_)
 refine RW.v ?_
 refine RW.nil ?_
 refine W.rg [(0, pp h), (4, .int .i64 d), (6, pp b1), (7, pp b2), (8, pp b3), (10, pp b4), (11, pp b5), (13, .func (.func 40) #[] #[])] fun TA => ?_
 refine W.seq ?_
 refine W.block ?_
 refine W.seq (W.region ?_)
 refine RW.v ?_
 refine RW.cl ?_
 refine WC.enter (fn := Tryz.f41) Tryz.func41 rfl ?_
 refine W.rg [(0, pp h)] fun TA => ?_
 refine W.seq (W.region ?_)
 refine RW.v ?_
 refine RW.nil ?_
 refine W.rg [(0, pp h)] fun TA => ?_
 refine W.seq (W.region ?_)
 refine RW.v ?_
 refine RW.cl ?_
 refine ⟨_, _, (s_limit (G := G66) H.abs), ?_⟩
 refine RW.valE (v' := .bool true) (by kernel_rfl) (by kernel_rfl) rfl (congrArg Value.bool (decide_eq_true (by omega))) (by kernel_rfl) ?_
 refine RW.v ?_
 refine RW.nil ?_
 refine W.ret ?_
 refine endG (by rfl) (by exact resL_tmp rfl) ?_
 iterate 2 refine RW.v ?_
 refine RW.nil ?_
 refine W.c0 ?_
 refine W.seq (W.region ?_)
 refine RW.v ?_
 refine RW.valE (v' := .bool false) (by kernel_rfl) (by kernel_rfl) rfl (congrArg Value.bool (decide_eq_false (by omega))) (by kernel_rfl) ?_
 refine RW.v ?_
 refine RW.val (by rfl) (by kernel_rfl) rfl (by kernel_rfl) ?_
 refine RW.valE (v' := .bool false) (by rfl) (by kernel_rfl) rfl (congrArg Value.bool (decide_eq_false (by omega))) (by kernel_rfl) ?_
 iterate 2 refine RW.v ?_
 refine RW.nil ?_
 refine W.c0 ?_
 refine W.seq (W.region ?_)
 refine RW.ld H 2 2 ?_
 refine RW.loads 2 (by kernel_rfl) (by kernel_rfl) rfl rfl (H.old _ _ hN) rfl rfl (by kernel_rfl) ?_
 refine RW.vop (v := .bool false) (by kernel_rfl) (by kernel_rfl) (vop_eqS (b := false) (r := false) rfl (.inl ⟨rfl, rfl⟩) rfl rfl rfl rfl (by kernel_rfl) (fun w => (eqWd _ _ _ _ w).trans (by (first | refine congrArg (Result.ok · w) ?_ | skip); exact hf0))) (by kernel_rfl) ?_
 refine RW.v ?_
 refine RW.nil ?_
 refine W.c0 ?_
 refine W.skip ?_
 refine blkQ_normal ?_
 refine W.seq (W.region ?_)
 refine RW.v ?_
 refine RW.ld H 4 2 ?_
 refine RW.ld H 3 2 ?_
 refine RW.cl ?_
 refine WC.enter (fn := Tryz.f42) Tryz.func42 rfl ?_
 refine W.rg [(0, pp h), (1, .agg #[.int .i64 vw.1, .int .i64 vw.2]), (2, .agg #[.int .i64 p.1, .int .i64 p.2])] fun TA => ?_
 refine W.seq (W.region ?_)
 refine RW.mk H (.row ⟨[.int .i64 vw.1, .int .i64 vw.2], 27, false⟩) ?_
 clear H; intro _ b6 _ H
 refine RW.mk H (.row ⟨[.int .i64 p.1, .int .i64 p.2], 27, false⟩) ?_
 clear H; intro _ b7 _ H
 iterate 3 refine RW.v ?_
 refine RW.nil ?_
 refine W.rg [(0, pp h), (4, pp b6), (5, pp b7), (7, .slice none 0 0)] fun TA => ?_
 refine W.seq ?_
 refine W.seq (W.region ?_)
 refine RW.v ?_
 refine RW.ld H 1 2 ?_
 refine RW.cl ?_
 refine ((E _ H.gn H.abs ⟨_, _, H.old _ _ hN⟩).mono ?_)
 rintro _ _ ⟨slV, rfl, LV, K, fz⟩
 obtain ⟨F, leV, hSV, H⟩ := fz _ _ _ _ (H.then K)
 clear K fz
 replace hN := leV _ _ hN
 iterate 5 refine RW.v ?_
 refine RW.nil ?_
 replace H := (H.del 1)
 dsimp only [setL, delL] at H
 refine W.rg [(0, pp h), (5, pp b7), (6, slV), (7, .slice none 0 0), (8, .int .i64 0)] fun TA => ?_
 refine W.seq (W.region ?_)
 iterate 2 refine RW.v ?_
 refine RW.nil ?_
 refine W.c1 ?_
 refine W.region ?_
 refine RW.v ?_
 refine RW.ld H 0 2 ?_
 refine RW.cl ?_
 refine ((slice_k (h := h) (m := m) hx H.gn H.abs hlo hp hn).mono ?_)
 rintro _ _ ⟨slE, rfl, K⟩
 replace H := H.then K
 clear K
 dsimp only [List.nil_append, List.cons_append] at H
 obtain ⟨F, leE, hSE, H⟩ := H.freezeSl 0 rfl
 dsimp only [setL, delL] at H
 replace hSV := hSV.le leE
 replace hN := leE _ _ hN
 iterate 5 refine RW.v ?_
 refine RW.nil ?_
 replace H := (H.del 0)
 dsimp only [setL, delL] at H
 refine W.rg [(6, slV), (7, slE), (8, .int .i64 0)] fun TA => ?_
 refine W.seq (W.region ?_)
 iterate 6 refine RW.v ?_
 refine RW.nil ?_
 refine W.ret ?_
 refine endG (by rfl) (by exact resL_tmp (by exact resL_tmp (by exact resL_tmp rfl))) ?_
 iterate 7 refine RW.v ?_
 refine RW.nil ?_
 refine W.rg [(0, pp h), (4, .int .i64 d), (6, pp b1), (7, pp b2), (8, pp b3), (10, pp b4), (11, pp b5), (13, .func (.func 40) #[] #[]), (14, slV), (15, slE), (16, .int .i64 0)] fun TA => ?_
 refine W.seq ?_
 refine W.seq (W.region ?_)
 iterate 2 refine RW.v ?_
 refine RW.nil ?_
 refine W.c0 ?_
 refine W.skip ?_
 refine W.seq ?_
 refine W.seq (W.region ?_)
 iterate 2 refine RW.v ?_
 refine RW.ld H 2 2 ?_
 refine RW.cl ?_
 refine ((find_wc H.gn H.abs hlo hnw (hSV.le H.old) gf gws).mono ?_)
 rintro _ _ ⟨e, K⟩
 rw [hF] at e
 subst e
 replace H := H.then K
 clear K
 dsimp only [List.nil_append, List.cons_append] at H
 iterate 5 refine RW.v ?_
 refine RW.nil ?_
 refine W.rg [(0, pp h), (4, .int .i64 d), (6, pp b1), (7, pp b2), (8, pp b3), (10, pp b4), (11, pp b5), (13, .func (.func 40) #[] #[]), (14, slV), (15, slE), (17, .bool true), (18, .int .i64 0)] fun TA => ?_
 refine W.block ?_
 refine W.seq (W.region ?_)
 iterate 3 refine RW.v ?_
 refine RW.nil ?_
 refine W.c0 ?_
 refine W.seq (W.region ?_)
 iterate 2 refine RW.v ?_
 refine RW.nil ?_
 refine W.c1 ?_
 refine W.seq ?_
 refine W.drawn (by kernel_rfl) (by kernel_rfl) H.gn ?_
 have H8 := H
 refine RW.ld H8 4 2 ?_
 refine RW.ld H8 3 2 ?_
 refine RW.stD H8 1 (vs := [.int .i64 vw.1, .int .i64 vw.2]) (cs' := [.int .i64 vw.1, .int .i64 vw.2]) (by kernel_rfl) (by kernel_rfl) rfl rfl rfl rfl rfl (by kernel_rfl) (Nat.le_of_ble_eq_true rfl) rfl (by kernel_rfl) ?_
 intro _ H9
 dsimp only [setL, delL] at H9
 refine RW.stD H9 0 (vs := [.int .i64 p.1, .int .i64 p.2]) (cs' := [.int .i64 p.1, .int .i64 p.2]) (by kernel_rfl) (by kernel_rfl) rfl rfl rfl rfl rfl (by kernel_rfl) (Nat.le_of_ble_eq_true rfl) rfl (by kernel_rfl) ?_
 intro _ H10
 dsimp only [setL, delL] at H10
 refine RW.v ?_
 refine RW.nil ?_
 refine ⟨⟨by kernel_rfl, ⟨dyn_row (H8.get 4 rfl) (H10.get 4 rfl) ⟨fun h => Bool.noConfusion h, fun h => Bool.noConfusion h, fun _ => H8.get 4 rfl, fun _ => H9.get 4 rfl, fun h => Bool.noConfusion h, trivial⟩, dyn_row (H8.get 3 rfl) (H10.get 3 rfl) ⟨fun h => Bool.noConfusion h, fun h => Bool.noConfusion h, fun _ => H8.get 3 rfl, fun _ => H9.get 3 rfl, fun h => Bool.noConfusion h, trivial⟩, trivial, trivial, trivial, trivial⟩⟩, ?_⟩
 replace H := H10
 clear H8 H9 H10
 replace H := (((H.del 4).del 3).del 2)
 dsimp only [setL, delL] at H
 refine W.ret ?_
 refine blkQ_ret ?_
 refine seqQ_ret ?_
 refine endG (by rfl) (by exact resL_cell rfl (H.get 1 rfl) (by rw [uT_eq]; exact Tryz.underlying27) (by kernel_rfl) rfl rfl (by exact resL_cell rfl (H.get 0 rfl) (by rw [uT_eq]; exact Tryz.underlying27) (by kernel_rfl) rfl rfl (by exact resL_tmp rfl))) ?_
 exact ⟨rfl, ((H.del 1).del 0).back (leV.trans leE)⟩

set_option maxHeartbeats 16000000 in
theorem add_zero {vw p f : Wd} {c : Nat → Wd} {ws es : List Wd} {fs : List Rk} (hG : G66 ≤ σ0.next) (ha : σ0.abs = heapAbs h m) (hlo : 0 < m.limit) (hN : GNull σ0.get) (E : Elems G66 h m vw ws) (hx : c 0 = p) (hp : Chain m c es) (hn : es.length ≤ 65536) (hw12 : ws.length ≤ 12) (gf : Good m f) (hf0 : (f.1 == 1 && f.2 == 0) = false) (gws : ∀ y ∈ ws, Good m y) (hF : hasW m f ws = false) (gfs : ∀ y ∈ fs, Good m y.1) (hdp : Deps m es fs) (hf : m.free = []) (hr : m.many + ws.length + 3 ≤ m.limit) (hlim : m.limit ≤ 65536) :
  WC G66 Tryz.prog 11 #[pp h, wdV vw, wdV p, wdV f, .int .i64 0] σ0 fun r σ' => ∃ ys, StabR ((f, 0) :: ws.map (rkOf m fs)) ys ∧ r = .tuple #[wdV (built m (ys.map Prod.fst) (1, 0)).2, wdV p, .int .i64 0] ∧ Lies G66 (heapAbs h (built m (ys.map Prod.fst) (1, 0)).1) σ0.get σ' [] := by
 obtain ⟨tN, gN, hN⟩ := hN
 have hnw : ws.length ≤ 65536 := by omega
 have H := Lies.start hG ha
 generalize σ0.get = F at H hN ⊢
 refine WC.enter (fn := Tryz.f11) Tryz.func11 rfl ?_
 refine W.rg [(0, pp h), (1, .agg #[.int .i64 vw.1, .int .i64 vw.2]), (2, .agg #[.int .i64 p.1, .int .i64 p.2]), (3, .agg #[.int .i64 f.1, .int .i64 f.2]), (4, .int .i64 0)] fun TA => ?_
 refine W.seq (W.region ?_)
 refine RW.mk H (.row ⟨[.int .i64 vw.1, .int .i64 vw.2], 27, false⟩) ?_
 clear H; intro _ b1 _ H
 refine RW.mk H (.row ⟨[.int .i64 p.1, .int .i64 p.2], 27, false⟩) ?_
 clear H; intro _ b2 _ H
 refine RW.mk H (.row ⟨[.int .i64 f.1, .int .i64 f.2], 27, false⟩) ?_
 clear H; intro _ b3 _ H
 refine RW.mk H (.row ⟨[.int .i64 0, .int .i64 0], 27, false⟩) ?_
 clear H; intro _ b4 _ H
 refine RW.mk H (.row ⟨[.int .i64 0, .int .i64 0], 27, false⟩) ?_
 clear H; intro _ b5 _ H
 refine RW.v ?_
 refine RW.nil ?_
 refine W.rg [(0, pp h), (4, .int .i64 0), (6, pp b1), (7, pp b2), (8, pp b3), (10, pp b4), (11, pp b5)] fun TA => ?_
 refine W.seq (W.region ?_)
 refine RW.v ?_
 refine RW.nil ?_
 refine W.rg [(0, pp h), (4, .int .i64 0), (6, pp b1), (7, pp b2), (8, pp b3), (10, pp b4), (11, pp b5), (13, .func (.func 40) #[] #[])] fun TA => ?_
 refine W.seq ?_
 refine W.block ?_
 refine W.seq (W.region ?_)
 refine RW.v ?_
 refine RW.cl ?_
 refine WC.enter (fn := Tryz.f41) Tryz.func41 rfl ?_
 refine W.rg [(0, pp h)] fun TA => ?_
 refine W.seq (W.region ?_)
 refine RW.v ?_
 refine RW.nil ?_
 refine W.rg [(0, pp h)] fun TA => ?_
 refine W.seq (W.region ?_)
 refine RW.v ?_
 refine RW.cl ?_
 refine ⟨_, _, (s_limit (G := G66) H.abs), ?_⟩
 refine RW.valE (v' := .bool true) (by kernel_rfl) (by kernel_rfl) rfl (congrArg Value.bool (decide_eq_true (by omega))) (by kernel_rfl) ?_
 refine RW.v ?_
 refine RW.nil ?_
 refine W.ret ?_
 refine endG (by rfl) (by exact resL_tmp rfl) ?_
 iterate 2 refine RW.v ?_
 refine RW.nil ?_
 refine W.c0 ?_
 refine W.seq (W.region ?_)
 iterate 3 refine RW.v ?_
 refine RW.val (by rfl) (by kernel_rfl) rfl (by kernel_rfl) ?_
 refine RW.val (by rfl) (by kernel_rfl) rfl (by kernel_rfl) ?_
 iterate 2 refine RW.v ?_
 refine RW.nil ?_
 refine W.c0 ?_
 refine W.seq (W.region ?_)
 refine RW.ld H 2 2 ?_
 refine RW.loads 2 (by kernel_rfl) (by kernel_rfl) rfl rfl (H.old _ _ hN) rfl rfl (by kernel_rfl) ?_
 refine RW.vop (v := .bool false) (by kernel_rfl) (by kernel_rfl) (vop_eqS (b := false) (r := false) rfl (.inl ⟨rfl, rfl⟩) rfl rfl rfl rfl (by kernel_rfl) (fun w => (eqWd _ _ _ _ w).trans (by (first | refine congrArg (Result.ok · w) ?_ | skip); exact hf0))) (by kernel_rfl) ?_
 refine RW.v ?_
 refine RW.nil ?_
 refine W.c0 ?_
 refine W.skip ?_
 refine blkQ_normal ?_
 refine W.seq (W.region ?_)
 refine RW.v ?_
 refine RW.ld H 4 2 ?_
 refine RW.ld H 3 2 ?_
 refine RW.cl ?_
 refine WC.enter (fn := Tryz.f42) Tryz.func42 rfl ?_
 refine W.rg [(0, pp h), (1, .agg #[.int .i64 vw.1, .int .i64 vw.2]), (2, .agg #[.int .i64 p.1, .int .i64 p.2])] fun TA => ?_
 refine W.seq (W.region ?_)
 refine RW.mk H (.row ⟨[.int .i64 vw.1, .int .i64 vw.2], 27, false⟩) ?_
 clear H; intro _ b6 _ H
 refine RW.mk H (.row ⟨[.int .i64 p.1, .int .i64 p.2], 27, false⟩) ?_
 clear H; intro _ b7 _ H
 iterate 3 refine RW.v ?_
 refine RW.nil ?_
 refine W.rg [(0, pp h), (4, pp b6), (5, pp b7), (7, .slice none 0 0)] fun TA => ?_
 refine W.seq ?_
 refine W.seq (W.region ?_)
 refine RW.v ?_
 refine RW.ld H 1 2 ?_
 refine RW.cl ?_
 refine ((E _ H.gn H.abs ⟨_, _, H.old _ _ hN⟩).mono ?_)
 rintro _ _ ⟨slV, rfl, LV, K, fz⟩
 obtain ⟨F, leV, hSV, H⟩ := fz _ _ _ _ (H.then K)
 clear K fz
 replace hN := leV _ _ hN
 iterate 5 refine RW.v ?_
 refine RW.nil ?_
 replace H := (H.del 1)
 dsimp only [setL, delL] at H
 refine W.rg [(0, pp h), (5, pp b7), (6, slV), (7, .slice none 0 0), (8, .int .i64 0)] fun TA => ?_
 refine W.seq (W.region ?_)
 iterate 2 refine RW.v ?_
 refine RW.nil ?_
 refine W.c1 ?_
 refine W.region ?_
 refine RW.v ?_
 refine RW.ld H 0 2 ?_
 refine RW.cl ?_
 refine ((slice_k (h := h) (m := m) hx H.gn H.abs hlo hp hn).mono ?_)
 rintro _ _ ⟨slE, rfl, K⟩
 replace H := H.then K
 clear K
 dsimp only [List.nil_append, List.cons_append] at H
 obtain ⟨F, leE, hSE, H⟩ := H.freezeSl 0 rfl
 dsimp only [setL, delL] at H
 replace hSV := hSV.le leE
 replace hN := leE _ _ hN
 iterate 5 refine RW.v ?_
 refine RW.nil ?_
 replace H := (H.del 0)
 dsimp only [setL, delL] at H
 refine W.rg [(6, slV), (7, slE), (8, .int .i64 0)] fun TA => ?_
 refine W.seq (W.region ?_)
 iterate 6 refine RW.v ?_
 refine RW.nil ?_
 refine W.ret ?_
 refine endG (by rfl) (by exact resL_tmp (by exact resL_tmp (by exact resL_tmp rfl))) ?_
 iterate 7 refine RW.v ?_
 refine RW.nil ?_
 refine W.rg [(0, pp h), (4, .int .i64 0), (6, pp b1), (7, pp b2), (8, pp b3), (10, pp b4), (11, pp b5), (13, .func (.func 40) #[] #[]), (14, slV), (15, slE), (16, .int .i64 0)] fun TA => ?_
 refine W.seq ?_
 refine W.seq (W.region ?_)
 iterate 2 refine RW.v ?_
 refine RW.nil ?_
 refine W.c0 ?_
 refine W.skip ?_
 refine W.seq ?_
 refine W.seq (W.region ?_)
 iterate 2 refine RW.v ?_
 refine RW.ld H 2 2 ?_
 refine RW.cl ?_
 refine ((find_wc H.gn H.abs hlo hnw (hSV.le H.old) gf gws).mono ?_)
 rintro _ _ ⟨e, K⟩
 rw [hF] at e
 subst e
 replace H := H.then K
 clear K
 dsimp only [List.nil_append, List.cons_append] at H
 iterate 5 refine RW.v ?_
 refine RW.nil ?_
 refine W.rg [(0, pp h), (4, .int .i64 0), (6, pp b1), (7, pp b2), (8, pp b3), (10, pp b4), (11, pp b5), (13, .func (.func 40) #[] #[]), (14, slV), (15, slE), (17, .bool false), (18, .int .i64 0)] fun TA => ?_
 refine W.block ?_
 refine W.seq (W.region ?_)
 iterate 3 refine RW.v ?_
 refine RW.nil ?_
 refine W.c0 ?_
 refine W.seq (W.region ?_)
 iterate 2 refine RW.v ?_
 refine RW.nil ?_
 refine W.c0 ?_
 refine W.skip ?_
 refine blkQ_normal ?_
 refine W.seq (W.region ?_)
 refine RW.v ?_
 refine RW.nil ?_
 replace H := (H.del 4)
 dsimp only [setL, delL] at H
 refine W.rg [(0, pp h), (4, .int .i64 0), (7, pp b2), (8, pp b3), (10, pp b4), (11, pp b5), (13, .func (.func 40) #[] #[]), (14, slV), (15, slE), (19, .slice none 0 0)] fun TA => ?_
 refine W.seq ?_
 refine W.seq (W.region ?_)
 refine RW.v ?_
 refine RW.len (by kernel_rfl) (by kernel_rfl) rfl rfl rfl rfl (hSV.len (e := 27) (by kernel_rfl)) (by kernel_rfl) ?_
 refine RW.v ?_
 refine RW.nil ?_
 refine W.rg [(0, pp h), (4, .int .i64 0), (7, pp b2), (8, pp b3), (10, pp b4), (11, pp b5), (13, .func (.func 40) #[] #[]), (15, slE), (19, .slice none 0 0), (99, slV), (100, .int .i64 (ws.length : Int)), (101, .int .i64 0)] fun TA => ?_
 refine W.block ?_
 replace H := H.nilSl 79 3
 refine W.loop (fun mm ta σ => ∃ (i : Nat) (u : Value), (mm + i = ws.length) ∧ Lies G66 (heapAbs h m) F σ [.sl 79 3 u i (rkC ((ws.take i).map (rkOf m fs))), .at_ b5 (.row ⟨[.int .i64 0, .int .i64 0], 27, false⟩), .at_ b4 (.row ⟨[.int .i64 0, .int .i64 0], 27, false⟩), .at_ b3 (.row ⟨[.int .i64 f.1, .int .i64 f.2], 27, false⟩), .at_ b2 (.row ⟨[.int .i64 p.1, .int .i64 p.2], 27, false⟩)] ∧ ta 0 = .pointer (some ⟨h, 0, none⟩) ∧ ta 4 = .int .i64 0 ∧ ta 7 = .pointer (some ⟨b2, 0, none⟩) ∧ ta 8 = .pointer (some ⟨b3, 0, none⟩) ∧ ta 10 = .pointer (some ⟨b4, 0, none⟩) ∧ ta 11 = .pointer (some ⟨b5, 0, none⟩) ∧ ta 13 = .func (.func 40) #[] #[] ∧ ta 15 = slE ∧ ta 19 = u ∧ ta 99 = slV ∧ ta 100 = .int .i64 (ws.length : Int) ∧ ta 101 = .int .i64 ((i : Nat) : Int)) ws.length ?_ ?_
 ·exact ⟨0, .slice none 0 0, (by omega), H, rfl, rfl, rfl, rfl, rfl, rfl, rfl, rfl, rfl, rfl, rfl, rfl⟩
 clear H
 rintro mm ta _ ⟨i, u, hm, H, e0, e4, e7, e8, e10, e11, e13, e15, e19, e99, e100, e101⟩
 refine W.rst [(0, .pointer (some ⟨h, 0, none⟩)), (4, .int .i64 0), (7, .pointer (some ⟨b2, 0, none⟩)), (8, .pointer (some ⟨b3, 0, none⟩)), (10, .pointer (some ⟨b4, 0, none⟩)), (11, .pointer (some ⟨b5, 0, none⟩)), (13, .func (.func 40) #[] #[]), (15, slE), (19, u), (99, slV), (100, .int .i64 (ws.length : Int)), (101, .int .i64 ((i : Nat) : Int))] ⟨e0, e4, e7, e8, e10, e11, e13, e15, e19, e99, e100, e101, trivial⟩ fun TA => ?_
 clear e0 e4 e7 e8 e10 e11 e13 e15 e19 e99 e100 e101
 refine W.seq (W.region ?_)
 refine RW.v ?_
 refine RW.nil ?_
 refine W.rg [(0, pp h), (4, .int .i64 0), (7, pp b2), (8, pp b3), (10, pp b4), (11, pp b5), (13, .func (.func 40) #[] #[]), (15, slE), (19, u), (99, slV), (100, .int .i64 (ws.length : Int)), (101, .int .i64 ((i : Nat) : Int)), (102, .bool (decide (((i : Nat) : Int) < (ws.length : Int))))] fun TA => ?_
 refine W.seq ?_
 refine W.cond rfl (fun hc8 => ?_) (fun hc8 => ?_)
 ·have hc8b := hc8
  have hc8 := of_decide_eq_true hc8
  have hi : i < ws.length := by omega
  refine W.skip ?_
  refine W.seq ?_
  refine W.block ?_
  refine W.seq (W.region ?_)
  refine RW.idxF hSV (by kernel_rfl) (by kernel_rfl) rfl Tryz.underlying33 (by kernel_rfl) rfl rfl ⟨by omega, by omega⟩ (by kernel_rfl) ?_
  intro b9 q10 r11 hF12 hE13
  rw [wdC_at (l := ws) (j := i) (by omega)] at hE13
  refine RW.loads 2 (by kernel_rfl) (by kernel_rfl) rfl rfl (H.old _ _ hF12) hE13 rfl (by kernel_rfl) ?_
  refine RW.mk H (.row ⟨[.int .i64 0, .int .i64 0], 27, false⟩) ?_
  clear H; intro _ b14 _ H
  refine RW.st H 0 [.int .i64 ((ws.getD i (0, 0)).1), .int .i64 ((ws.getD i (0, 0)).2)] [.int .i64 ((ws.getD i (0, 0)).1), .int .i64 ((ws.getD i (0, 0)).2)] ?_
  clear H; intro _ _ H; dsimp only [setL, delL] at H
  refine RW.nil ?_
  refine W.rg [(0, pp h), (4, .int .i64 0), (7, pp b2), (8, pp b3), (10, pp b4), (11, pp b5), (13, .func (.func 40) #[] #[]), (15, slE), (19, u), (21, pp b14), (99, slV), (100, .int .i64 (ws.length : Int)), (101, .int .i64 ((i : Nat) : Int))] fun TA => ?_
  refine W.seq (W.region ?_)
  iterate 2 refine RW.v ?_
  refine RW.ld H 0 2 ?_
  refine RW.cl ?_
  refine ((depth_wc H.gn H.abs hlo hn (hSE.le H.old) (gws _ (getW_mem (l := ws) (by omega))) gfs hdp).mono ?_)
  rintro _ _ ⟨rfl, K⟩
  replace H := H.then K
  clear K
  dsimp only [List.nil_append, List.cons_append] at H
  iterate 5 refine RW.v ?_
  refine RW.nil ?_
  refine W.rg [(0, pp h), (4, .int .i64 0), (7, pp b2), (8, pp b3), (10, pp b4), (11, pp b5), (13, .func (.func 40) #[] #[]), (15, slE), (19, u), (21, pp b14), (22, .int .i64 (depOf m (ws.getD i (0, 0)) fs)), (23, .int .i64 0), (99, slV), (100, .int .i64 (ws.length : Int)), (101, .int .i64 ((i : Nat) : Int))] fun TA => ?_
  refine W.seq ?_
  refine W.seq (W.region ?_)
  iterate 2 refine RW.v ?_
  refine RW.nil ?_
  refine W.c0 ?_
  refine W.skip ?_
  refine W.region ?_
  refine RW.v ?_
  refine RW.ld H 0 2 ?_
  refine RW.v ?_
  refine RW.val (v := .agg #[.int .i64 ((ws.getD i (0, 0)).1), .int .i64 ((ws.getD i (0, 0)).2), .int .i64 (depOf m (ws.getD i (0, 0)) fs)]) (by kernel_rfl) (by kernel_rfl) (by kernel_rfl) (by kernel_rfl) ?_
  refine RW.mkL H (x := .row ⟨[.int .i64 ((ws.getD i (0, 0)).1), .int .i64 ((ws.getD i (0, 0)).2), .int .i64 (depOf m (ws.getD i (0, 0)) fs)], 79, false⟩) (fm := fun b => .slice (some ⟨b, 0, none⟩) 1 1) (by kernel_rfl) (by kernel_rfl) (by kernel_rfl) (by kernel_rfl) ?_
  clear H; intro _ b15 _ H
  refine RW.appL H 2 0 (n := 1) (e2 := 79) (by kernel_rfl) (by kernel_rfl) rfl rfl rfl rfl rfl rfl rfl rfl (by kernel_rfl) (by kernel_rfl) (by kernel_rfl) (by decide) (by decide) rfl rfl (by omega) (by kernel_rfl) ?_
  clear H; intro _ v16 _ H
  dsimp only [setL, delL] at H
  refine RW.v ?_
  refine RW.nil ?_
  replace H := (H.del 0)
  dsimp only [setL, delL] at H
  refine blkQ_normal ?_
  refine W.rg [(0, pp h), (4, .int .i64 0), (7, pp b2), (8, pp b3), (10, pp b4), (11, pp b5), (13, .func (.func 40) #[] #[]), (15, slE), (19, v16), (99, slV), (100, .int .i64 (ws.length : Int)), (101, .int .i64 ((i : Nat) : Int))] fun TA => ?_
  refine W.region ?_
  refine RW.valE (v' := .int .i64 (((i : Nat) : Int) + 1)) (by kernel_rfl) (by kernel_rfl) rfl (congrArg (Value.int .i64) (wrap_in (by omega) (by omega))) (by kernel_rfl) ?_
  refine RW.v ?_
  refine RW.nil ?_
  rw [rks_snoc hi] at H
  exact ⟨rfl, mm - 1, by omega, i + 1, v16, (by omega), H, rfl, rfl, rfl, rfl, rfl, rfl, rfl, rfl, rfl, rfl, rfl, rfl⟩
 ·have hc8b := hc8
  have hc8 := of_decide_eq_false hc8
  obtain rfl : i = ws.length := by omega
  refine W.exit _ ?_
  refine seqQ_exit ?_
  refine rndQ_exit ?_
  rw [List.take_length] at H
  refine blkQ_here ?_
  refine W.seq (W.region ?_)
  refine RW.v ?_
  refine RW.nil ?_
  refine W.rg [(0, pp h), (4, .int .i64 0), (7, pp b2), (8, pp b3), (10, pp b4), (11, pp b5), (13, .func (.func 40) #[] #[]), (19, u), (24, .int .i64 0)] fun TA => ?_
  refine W.seq ?_
  refine W.seq (W.region ?_)
  iterate 2 refine RW.v ?_
  refine RW.nil ?_
  refine W.c0 ?_
  refine W.skip ?_
  refine W.seq (W.region ?_)
  iterate 2 refine RW.v ?_
  refine RW.ld H 3 2 ?_
  refine RW.v ?_
  refine RW.val (v := .agg #[.int .i64 f.1, .int .i64 f.2, .int .i64 0]) (by kernel_rfl) (by kernel_rfl) (by kernel_rfl) (by kernel_rfl) ?_
  refine RW.mkL H (x := .row ⟨[.int .i64 f.1, .int .i64 f.2, .int .i64 0], 79, false⟩) (fm := fun b => .slice (some ⟨b, 0, none⟩) 1 1) (by kernel_rfl) (by kernel_rfl) (by kernel_rfl) (by kernel_rfl) ?_
  clear H; intro _ b17 _ H
  replace H := H.front 1 rfl
  dsimp only [setL, delL] at H
  replace H := H.front 1 rfl
  dsimp only [setL, delL] at H
  refine RW.cl ?_
  refine ((insert_zero (x := (f, (0 : Int))) (l := (ws.map (rkOf m fs))) (by omega) H).mono ?_)
  clear H
  rintro v2 _ H
  refine RW.v ?_
  refine RW.nil ?_
  refine W.rg [(0, pp h), (4, .int .i64 0), (7, pp b2), (8, pp b3), (10, pp b4), (11, pp b5), (13, .func (.func 40) #[] #[]), (19, v2)] fun TA => ?_
  refine W.seq (W.region ?_)
  refine RW.v ?_
  refine RW.cl ?_
  refine ((sort_wc (all := ((f, (0 : Int)) :: (ws.map (rkOf m fs)))) (by simp) (by omega) (by omega) H).mono ?_)
  clear H
  rintro _ _ ⟨rfl, ys, hys, H⟩
  have hyl : ys.length = ws.length + 1 := by rw [hys.len]; simp
  refine RW.nil ?_
  refine W.rg [(0, pp h), (4, .int .i64 0), (7, pp b2), (8, pp b3), (10, pp b4), (11, pp b5), (13, .func (.func 40) #[] #[]), (19, v2)] fun TA => ?_
  refine W.seq (W.region ?_)
  refine RW.v ?_
  refine RW.cl ?_
  refine ⟨_, _, (s_limit (G := G66) H.abs), ?_⟩
  refine RW.v ?_
  refine RW.cl ?_
  refine ⟨_, _, (s_many (G := G66) H.abs), ?_⟩
  refine RW.valE (v' := .int .i64 ((m.limit : Int) - (m.many : Int))) (by kernel_rfl) (by kernel_rfl) rfl (congrArg (Value.int .i64) (wrap_in (by omega) (by omega))) (by kernel_rfl) ?_
  refine RW.v ?_
  refine RW.len (by kernel_rfl) (by kernel_rfl) rfl rfl rfl rfl ((H.sl 0 rfl).len (by kernel_rfl)) (by kernel_rfl) ?_
  refine RW.valE (v' := .int .i64 (((m.limit : Int) - (m.many : Int)) - ((ws.length + 1 : Nat) : Int))) (by kernel_rfl) (by kernel_rfl) rfl (congrArg (Value.int .i64) (wrap_in (by omega) (by omega))) (by kernel_rfl) ?_
  refine RW.v ?_
  refine RW.nil ?_
  refine W.rg [(0, pp h), (4, .int .i64 0), (7, pp b2), (8, pp b3), (10, pp b4), (11, pp b5), (13, .func (.func 40) #[] #[]), (19, v2), (25, .int .i64 (((m.limit : Int) - (m.many : Int)) - ((ws.length + 1 : Nat) : Int)))] fun TA => ?_
  refine W.seq ?_
  refine W.seq (W.region ?_)
  refine RW.v ?_
  refine RW.len (by kernel_rfl) (by kernel_rfl) rfl rfl rfl rfl ((H.sl 0 rfl).len (by kernel_rfl)) (by kernel_rfl) ?_
  refine RW.valE (v' := .bool false) (by kernel_rfl) (by kernel_rfl) rfl (congrArg Value.bool (decide_eq_false (by omega))) (by kernel_rfl) ?_
  refine RW.v ?_
  refine RW.val (by rfl) (by kernel_rfl) rfl (by kernel_rfl) ?_
  refine RW.valE (v' := .bool false) (by rfl) (by kernel_rfl) rfl (congrArg Value.bool (decide_eq_false (by omega))) (by kernel_rfl) ?_
  iterate 2 refine RW.v ?_
  refine RW.val (by rfl) (by kernel_rfl) rfl (by kernel_rfl) ?_
  refine RW.val (by rfl) (by kernel_rfl) rfl (by kernel_rfl) ?_
  refine RW.val (by rfl) (by kernel_rfl) rfl (by kernel_rfl) ?_
  refine RW.skip (by rfl) (by kernel_rfl) ?_
  refine RW.skip (by rfl) (by kernel_rfl) ?_
  refine RW.val (by rfl) (by kernel_rfl) rfl (by kernel_rfl) ?_
  refine RW.v ?_
  refine RW.nil ?_
  refine W.c0 ?_
  refine W.skip ?_
  refine W.seq (W.region ?_)
  refine RW.v ?_
  refine RW.nil ?_
  refine W.rg [(0, pp h), (4, .int .i64 0), (7, pp b2), (8, pp b3), (10, pp b4), (11, pp b5), (19, v2), (26, .slice none 0 0)] fun TA => ?_
  refine W.seq ?_
  refine W.seq (W.region ?_)
  refine RW.v ?_
  refine RW.len (by kernel_rfl) (by kernel_rfl) rfl rfl rfl rfl ((H.sl 0 rfl).len (by kernel_rfl)) (by kernel_rfl) ?_
  refine RW.v ?_
  refine RW.nil ?_
  refine W.rg [(0, pp h), (4, .int .i64 0), (7, pp b2), (8, pp b3), (10, pp b4), (11, pp b5), (26, .slice none 0 0), (168, v2), (169, .int .i64 ((ws.length + 1 : Nat) : Int)), (170, .int .i64 0)] fun TA => ?_
  refine W.block ?_
  replace H := H.nilSl 27 2
  refine W.loop (fun mm2 ta σ => ∃ (j : Nat) (u2 : Value), (mm2 + j = ws.length + 1) ∧ Lies G66 (heapAbs h m) F σ [.sl 27 2 u2 j (wdC ((ys.take j).map Prod.fst)), .sl 79 3 v2 (ws.length + 1) (rkC ys), .at_ b5 (.row ⟨[.int .i64 0, .int .i64 0], 27, false⟩), .at_ b4 (.row ⟨[.int .i64 0, .int .i64 0], 27, false⟩), .at_ b3 (.row ⟨[.int .i64 f.1, .int .i64 f.2], 27, false⟩), .at_ b2 (.row ⟨[.int .i64 p.1, .int .i64 p.2], 27, false⟩)] ∧ ta 0 = .pointer (some ⟨h, 0, none⟩) ∧ ta 4 = .int .i64 0 ∧ ta 7 = .pointer (some ⟨b2, 0, none⟩) ∧ ta 8 = .pointer (some ⟨b3, 0, none⟩) ∧ ta 10 = .pointer (some ⟨b4, 0, none⟩) ∧ ta 11 = .pointer (some ⟨b5, 0, none⟩) ∧ ta 26 = u2 ∧ ta 168 = v2 ∧ ta 169 = .int .i64 ((ws.length + 1 : Nat) : Int) ∧ ta 170 = .int .i64 ((j : Nat) : Int)) (ws.length + 1) ?_ ?_
  ·exact ⟨0, .slice none 0 0, (by omega), H, rfl, rfl, rfl, rfl, rfl, rfl, rfl, rfl, rfl, rfl⟩
  clear H
  rintro mm2 ta _ ⟨j, u2, hm2, H, e0, e4, e7, e8, e10, e11, e26, e168, e169, e170⟩
  refine W.rst [(0, .pointer (some ⟨h, 0, none⟩)), (4, .int .i64 0), (7, .pointer (some ⟨b2, 0, none⟩)), (8, .pointer (some ⟨b3, 0, none⟩)), (10, .pointer (some ⟨b4, 0, none⟩)), (11, .pointer (some ⟨b5, 0, none⟩)), (26, u2), (168, v2), (169, .int .i64 ((ws.length + 1 : Nat) : Int)), (170, .int .i64 ((j : Nat) : Int))] ⟨e0, e4, e7, e8, e10, e11, e26, e168, e169, e170, trivial⟩ fun TA => ?_
  clear e0 e4 e7 e8 e10 e11 e26 e168 e169 e170
  refine W.seq (W.region ?_)
  refine RW.v ?_
  refine RW.nil ?_
  refine W.rg [(0, pp h), (4, .int .i64 0), (7, pp b2), (8, pp b3), (10, pp b4), (11, pp b5), (26, u2), (168, v2), (169, .int .i64 ((ws.length + 1 : Nat) : Int)), (170, .int .i64 ((j : Nat) : Int)), (171, .bool (decide (((j : Nat) : Int) < ((ws.length + 1 : Nat) : Int))))] fun TA => ?_
  refine W.seq ?_
  refine W.cond rfl (fun hc18 => ?_) (fun hc18 => ?_)
  ·have hc18b := hc18
   have hc18 := of_decide_eq_true hc18
   have hj : j < ys.length := by omega
   refine W.skip ?_
   refine W.seq ?_
   refine W.block ?_
   refine W.seq (W.region ?_)
   refine RW.idxG H 1 rfl (by kernel_rfl) (by kernel_rfl) rfl Tryz.underlying76 (by kernel_rfl) rfl rfl ⟨by omega, by omega⟩ (by kernel_rfl) ?_
   intro b19 q20 r21 hF22 hE23
   rw [rkC_at (l := ys) (j := j) (by omega)] at hE23
   refine RW.loads 3 (by kernel_rfl) (by kernel_rfl) rfl rfl (hF22) hE23 rfl (by kernel_rfl) ?_
   refine RW.mk H (.row ⟨[.int .i64 0, .int .i64 0, .int .i64 0], 79, false⟩) ?_
   clear H; intro _ b24 _ H
   refine RW.st H 0 [.int .i64 ((ys.getD j rk0).1.1), .int .i64 ((ys.getD j rk0).1.2), .int .i64 ((ys.getD j rk0).2)] [.int .i64 ((ys.getD j rk0).1.1), .int .i64 ((ys.getD j rk0).1.2), .int .i64 ((ys.getD j rk0).2)] ?_
   clear H; intro _ _ H; dsimp only [setL, delL] at H
   refine RW.nil ?_
   refine W.rg [(0, pp h), (4, .int .i64 0), (7, pp b2), (8, pp b3), (10, pp b4), (11, pp b5), (26, u2), (28, pp b24), (168, v2), (169, .int .i64 ((ws.length + 1 : Nat) : Int)), (170, .int .i64 ((j : Nat) : Int))] fun TA => ?_
   refine W.region ?_
   iterate 2 refine RW.v ?_
   refine RW.ld H 0 2 ?_
   refine RW.mkL H (x := .row ⟨[.int .i64 ((ys.getD j rk0).1.1), .int .i64 ((ys.getD j rk0).1.2)], 27, false⟩) (fm := fun b => .slice (some ⟨b, 0, none⟩) 1 1) (by kernel_rfl) (by kernel_rfl) (by kernel_rfl) (by kernel_rfl) ?_
   clear H; intro _ b25 _ H
   refine RW.appL H 2 0 (n := 1) (e2 := 27) (by kernel_rfl) (by kernel_rfl) rfl rfl rfl rfl rfl rfl rfl rfl (by kernel_rfl) (by kernel_rfl) (by kernel_rfl) (by decide) (by decide) rfl rfl (by omega) (by kernel_rfl) ?_
   clear H; intro _ v26 _ H
   dsimp only [setL, delL] at H
   refine RW.v ?_
   refine RW.nil ?_
   replace H := (H.del 0)
   dsimp only [setL, delL] at H
   refine blkQ_normal ?_
   refine W.rg [(0, pp h), (4, .int .i64 0), (7, pp b2), (8, pp b3), (10, pp b4), (11, pp b5), (26, v26), (168, v2), (169, .int .i64 ((ws.length + 1 : Nat) : Int)), (170, .int .i64 ((j : Nat) : Int))] fun TA => ?_
   refine W.region ?_
   refine RW.valE (v' := .int .i64 (((j : Nat) : Int) + 1)) (by kernel_rfl) (by kernel_rfl) rfl (congrArg (Value.int .i64) (wrap_in (by omega) (by omega))) (by kernel_rfl) ?_
   refine RW.v ?_
   refine RW.nil ?_
   rw [outs_snoc hj] at H
   exact ⟨rfl, mm2 - 1, by omega, j + 1, v26, (by omega), H, rfl, rfl, rfl, rfl, rfl, rfl, rfl, rfl, rfl, rfl⟩
  ·have hc18b := hc18
   have hc18 := of_decide_eq_false hc18
   refine W.exit _ ?_
   refine seqQ_exit ?_
   refine rndQ_exit ?_
   rw [List.take_of_length_le (by omega)] at H
   obtain rfl : j = (ys.map Prod.fst).length := by rw [List.length_map]; omega
   refine blkQ_here ?_
   refine W.seq (W.region ?_)
   iterate 2 refine RW.v ?_
   refine RW.cl ?_
   refine ((make_lies (h := h) (m := m) (l := ys.map Prod.fst) H (grow_vw (H.sl 0 rfl)) (H.sl 0 rfl).one hf (by rw [List.length_map]; omega) hlo hlim).mono ?_)
   clear H
   rintro _ _ ⟨rfl, H⟩
   obtain ⟨bt, hbt⟩ : ∃ bt, bt = built m (ys.map Prod.fst) (1, 0) := ⟨_, rfl⟩
   rw [← hbt] at H ⊢
   have B : ExtH m bt.1 (ws.length + 1) := by rw [hbt]; exact (ext_built hf _ _).le (by rw [List.length_map]; omega)
   have Bm := B.many
   have Bl := B.lim
   iterate 3 refine RW.v ?_
   refine RW.mk H (.row ⟨[.int .i64 0, .int .i64 0], 27, false⟩) ?_
   clear H; intro _ b27 _ H
   refine RW.st H 0 [.int .i64 bt.2.1, .int .i64 bt.2.2] [.int .i64 bt.2.1, .int .i64 bt.2.2] ?_
   clear H; intro _ _ H; dsimp only [setL, delL] at H
   refine RW.v ?_
   refine RW.nil ?_
   replace H := ((H.del 2).del 1)
   dsimp only [setL, delL] at H
   refine W.rg [(0, pp h), (4, .int .i64 0), (7, pp b2), (8, pp b3), (10, pp b4), (11, pp b5), (29, pp b27)] fun TA => ?_
   refine W.seq ?_
   refine W.seq (W.region ?_)
   iterate 2 refine RW.v ?_
   refine RW.nil ?_
   refine W.c0 ?_
   refine W.skip ?_
   refine W.seq ?_
   refine W.drawn (by kernel_rfl) (by kernel_rfl) H.gn ?_
   have H28 := H
   refine RW.ld H28 0 2 ?_
   refine RW.ld H28 4 2 ?_
   refine RW.stD H28 2 (vs := [.int .i64 bt.2.1, .int .i64 bt.2.2]) (cs' := [.int .i64 bt.2.1, .int .i64 bt.2.2]) (by kernel_rfl) (by kernel_rfl) rfl rfl rfl rfl rfl (by kernel_rfl) (Nat.le_of_ble_eq_true rfl) rfl (by kernel_rfl) ?_
   intro _ H29
   dsimp only [setL, delL] at H29
   refine RW.stD H29 1 (vs := [.int .i64 p.1, .int .i64 p.2]) (cs' := [.int .i64 p.1, .int .i64 p.2]) (by kernel_rfl) (by kernel_rfl) rfl rfl rfl rfl rfl (by kernel_rfl) (Nat.le_of_ble_eq_true rfl) rfl (by kernel_rfl) ?_
   intro _ H30
   dsimp only [setL, delL] at H30
   refine RW.v ?_
   refine RW.nil ?_
   refine ⟨⟨by kernel_rfl, ⟨dyn_row (H28.get 0 rfl) (H30.get 0 rfl) ⟨fun h => Bool.noConfusion h, fun h => Bool.noConfusion h, fun _ => H28.get 0 rfl, fun _ => H29.get 0 rfl, fun h => Bool.noConfusion h, trivial⟩, dyn_row (H28.get 4 rfl) (H30.get 4 rfl) ⟨fun h => Bool.noConfusion h, fun h => Bool.noConfusion h, fun _ => H28.get 4 rfl, fun _ => H29.get 4 rfl, fun h => Bool.noConfusion h, trivial⟩, trivial, trivial, trivial, trivial⟩⟩, ?_⟩
   replace H := H30
   clear H28 H29 H30
   replace H := (((H.del 4).del 3).del 0)
   dsimp only [setL, delL] at H
   refine W.ret ?_
   refine endG (by rfl) (by exact resL_cell rfl (H.get 1 rfl) (by rw [uT_eq]; exact Tryz.underlying27) (by kernel_rfl) rfl rfl (by exact resL_cell rfl (H.get 0 rfl) (by rw [uT_eq]; exact Tryz.underlying27) (by kernel_rfl) rfl rfl (by exact resL_tmp rfl))) ?_
   subst hbt
   exact ⟨ys, hys, rfl, ((H.del 1).del 0).back (leV.trans leE)⟩

end
end Go.Proofs.YtaaebeiigkhcjaaGreatDoor
