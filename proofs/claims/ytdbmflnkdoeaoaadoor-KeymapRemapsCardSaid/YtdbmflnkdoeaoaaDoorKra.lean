/-
 Heaps of pairs, and keymap's cons and isMap. Conditions: the heap lies there as HeapAt says.
-/
import Derived.Test.YtdbmflnkdoeaoaaDoorApp
import Derived.Test.YtdbmflnkdoeaoaaDoorS4
import Derived.Test.YtdbmflnkdoeaoaaDoorHg
import Derived.Test.YtdbmflnkdoeaoaaDoorPick
namespace Go.Proofs.YtdbmflnkdoeaoaaDoor
set_option maxRecDepth 100000
abbrev G65 : Nat := 65
def hmP (l : List (Wd × Wd)) : HM := ⟨3000, l.map fun x => some (.pair x.1 x.2), []⟩
theorem hmP_many (l : List (Wd × Wd)) : (hmP l).many = l.length := by
 unfold hmP HM.many
 show ((l.map fun x => some (HObj.pair x.1 x.2)).filter Option.isSome).length = l.length
 rw [List.filter_eq_self.2, List.length_map]
 intro y hy
 obtain ⟨x, _, rfl⟩ := List.mem_map.1 hy
 rfl
theorem hmP_push (l : List (Wd × Wd)) (a d : Wd) : (hmP l).push (.pair a d) = hmP (l ++ [(a, d)]) := by
 unfold hmP HM.push
 rw [List.map_append]
 rfl
section
variable {P : Program} {σ : Mem} {nt : Nat} {ops : Array Oper} {l : List Oper} {ta : Nat → Value} {rs : List (Rec × Mem)} {o : Oper} {b cl : Nat} {es : List (Value × Value)}
theorem RW.lkF {K : List (Rec × Mem) → (Nat → Value) → Mem → Prop} (hg : σ.get b = some (.ents es cl)) {t : TypeId} {m k : Operand} {ok : Bool} (v : Value)
  (h : RW G65 P nt ops l (putO ta o.dst v) σ ((.eff v, σ) :: rs) K) (ho : o.op = .lookup t m k ok := by exact rfl) (hm : oper2 ta m = .map (some b) := by exact rfl) (hv : lookE P es t (oper2 ta k) ok = some v := by kernel_rfl) (hw : wantedT ops ta o = true := by kernel_rfl) (hk : opndOk G65 o = true := by kernel_rfl) (hd : dstOk nt o.dst = true := by kernel_rfl) : RW G65 P nt ops (o :: l) ta σ rs K :=
 RW.eff hw hk (eop_lookup ho (by rw [hm]; exact lookE_F hg hv)) hd h
end
section
variable {h T : Nat} {m : HM} {σ : Mem} {F : Nat → Option Blk2} {L : List Ent}
theorem newP (H : Lies G65 Abs.no F σ L) : WC G65 Tryd.prog 27 #[.int .i64 3000] σ fun v σ' => ∃ h, v = .tuple #[.pointer (some ⟨h, 0, none⟩), .int .i64 0] ∧ Lies G65 (heapAbs h (hmP [])) F σ' L :=
 ⟨_, _, s_new 3000 (by decide) (by decide) H.abs, _, rfl, H.move (fun b y h => by rw [made_get]; exact h) (Nat.le_succ _) rfl⟩
theorem consP {l : List (Wd × Wd)} {k : Int} (a d : Wd) (H : Lies G65 (heapAbs h (hmP l)) F σ L) (hn : l.length < 3000) (hk : (l.length : Int) = k) :
  WC G65 Tryd.prog 31 #[pp h, wdV a, wdV d] σ fun v σ' => v = .tuple #[wdV (2, k), .int .i64 0] ∧ Lies G65 (heapAbs h (hmP (l ++ [(a, d)]))) F σ' L := by
 have hS := s_cons (G := G65) a d H.abs (by rw [hmP_many]; exact hn) rfl
 have e : ((hmP l).objs.length : Int) = k := by rw [← hk]; unfold hmP; simp
 rw [e, hmP_push] at hS
 exact ⟨_, _, hS, rfl, H.move (fun b y h => h) (Nat.le_refl _) rfl⟩
theorem setCdrP {l l' : List (Wd × Wd)} (x y : Wd) (he : (hmP l).setCdr x y = (hmP l', 0)) (H : Lies G65 (heapAbs h (hmP l)) F σ L) :
  WC G65 Tryd.prog 40 #[pp h, wdV x, wdV y] σ fun v σ' => v = .int .i64 0 ∧ Lies G65 (heapAbs h (hmP l')) F σ' L := by
 have hS := s_setCdr (G := G65) x y H.abs
 rw [he] at hS
 exact ⟨_, _, hS, rfl, H.move (fun b y h => h) (Nat.le_refl _) rfl⟩
theorem find_kind {w a d : Wd} (hf : m.find w = some (.pair a d)) : w.1 = 2 := (HM.find_mem hf).2.2.symm
theorem liveP {k : Int} {a d : Wd} (ha : σ.abs = heapAbs h m) (hf : m.find (2, k) = some (.pair a d)) : SCall G65 Tryd.prog 76 #[.pointer (some ⟨h, 0, none⟩), .agg #[.int .i64 2, .int .i64 k]] σ (.bool true) σ := by
 have := s_live (G := G65) k ha
 rwa [hf] at this
theorem carP {k : Int} {a d : Wd} (ha : σ.abs = heapAbs h m) (hf : m.find (2, k) = some (.pair a d)) : SCall G65 Tryd.prog 77 #[.pointer (some ⟨h, 0, none⟩), .agg #[.int .i64 2, .int .i64 k]] σ (.tuple #[.agg #[.int .i64 a.1, .int .i64 a.2], .int .i64 0]) σ := by
 have := s_car (G := G65) (2, k) ha
 have e : m.car (2, k) = (a, 0) := by simp [HM.car, hf]
 rwa [e] at this
theorem cdrP {k : Int} {a d : Wd} (ha : σ.abs = heapAbs h m) (hf : m.find (2, k) = some (.pair a d)) : SCall G65 Tryd.prog 78 #[.pointer (some ⟨h, 0, none⟩), .agg #[.int .i64 2, .int .i64 k]] σ (.tuple #[.agg #[.int .i64 d.1, .int .i64 d.2], .int .i64 0]) σ := by
 have := s_cdr (G := G65) (2, k) ha
 have e : m.cdr (2, k) = (d, 0) := by simp [HM.cdr, hf]
 rwa [e] at this
set_option maxHeartbeats 4000000 in
theorem cons_y {w a d : Wd} (hf : m.find w = some (.pair a d)) (H : Lies G65 (heapAbs h m) F σ L) : WC G65 Tryd.prog 63 #[.agg #[.pointer (some ⟨h, 0, none⟩), .pointer (some ⟨T, 0, none⟩), .int .i64 1, .int .i64 66], wdV w] σ fun v σ' => v = .tuple #[wdV a, wdV d, .bool true] ∧ Lies G65 (heapAbs h m) F σ' L := by
 obtain ⟨w1, k⟩ := w
 obtain rfl : w1 = 2 := find_kind hf
 refine WC.enter (fn := Tryd.f63) Tryd.func63 rfl ?_
 refine W.rg [(0, .agg #[pp h, pp T, .int .i64 1, .int .i64 66]), (1, .agg #[.int .i64 2, .int .i64 k])] fun TA => ?_
 refine W.seq (W.region ?_)
 refine RW.mk H (.row ⟨[pt h, pt T, .int .i64 1, .int .i64 66], 65, false⟩) ?_
 clear H; intro _ b1 _ H
 refine RW.mk H (.row ⟨[.int .i64 2, .int .i64 k], 28, false⟩) ?_
 clear H; intro _ b2 _ H
 refine RW.mk H (.row ⟨[.int .i64 0, .int .i64 0], 28, false⟩) ?_
 clear H; intro _ b3 _ H
 refine RW.mk H (.row ⟨[.int .i64 0, .int .i64 0], 28, false⟩) ?_
 clear H; intro _ b4 _ H
 refine RW.v ?_
 refine RW.nil ?_
 refine W.rg [(2, pp b1), (3, pp b2), (4, pp b3), (5, pp b4)] fun TA => ?_
 refine W.seq ?_
 refine W.seq (W.region ?_)
 refine RW.v ?_
 refine RW.ld H 2 1 ?_
 iterate 2 refine RW.v ?_
 refine RW.val (by rfl) (by kernel_rfl) rfl (by kernel_rfl) ?_
 refine RW.ldL H 3 1 (by rfl) (by kernel_rfl) rfl rfl rfl rfl rfl (by kernel_rfl) ?_
 refine RW.ldL H 2 2 (by rfl) (by kernel_rfl) rfl rfl rfl rfl rfl (by kernel_rfl) ?_
 refine RW.cl (hw := by rfl) ?_
 refine ⟨_, _, (liveP H.abs hf), ?_⟩
 refine RW.val (by rfl) (by kernel_rfl) rfl (by kernel_rfl) ?_
 refine RW.v ?_
 refine RW.nil ?_
 refine W.c0 ?_
 refine W.skip ?_
 refine W.seq (W.region ?_)
 refine RW.v ?_
 refine RW.ld H 3 1 ?_
 refine RW.ld H 2 2 ?_
 refine RW.cl ?_
 refine ⟨_, _, (carP H.abs hf), ?_⟩
 iterate 3 refine RW.v ?_
 refine RW.st H 1 [.int .i64 a.1, .int .i64 a.2] [.int .i64 a.1, .int .i64 a.2] ?_
 clear H; intro _ _ H; dsimp only [setL, delL] at H
 refine RW.nil ?_
 refine W.rg [(2, pp b1), (3, pp b2), (4, pp b3), (5, pp b4)] fun TA => ?_
 refine W.seq (W.region ?_)
 refine RW.v ?_
 refine RW.ld H 3 1 ?_
 refine RW.ld H 2 2 ?_
 refine RW.cl ?_
 refine ⟨_, _, (cdrP H.abs hf), ?_⟩
 iterate 3 refine RW.v ?_
 refine RW.st H 0 [.int .i64 d.1, .int .i64 d.2] [.int .i64 d.1, .int .i64 d.2] ?_
 clear H; intro _ _ H; dsimp only [setL, delL] at H
 refine RW.nil ?_
 replace H := ((H.del 3).del 2)
 dsimp only [setL, delL] at H
 refine W.rg [(4, pp b3), (5, pp b4)] fun TA => ?_
 refine W.seq ?_
 refine W.drawn (by kernel_rfl) (by kernel_rfl) H.gn ?_
 have H5 := H
 refine RW.ld H5 1 2 ?_
 refine RW.ld H5 0 2 ?_
 refine RW.stD H5 1 (vs := [.int .i64 a.1, .int .i64 a.2]) (cs' := [.int .i64 a.1, .int .i64 a.2]) (by kernel_rfl) (by kernel_rfl) rfl rfl rfl rfl rfl (by kernel_rfl) (Nat.le_of_ble_eq_true rfl) rfl (by kernel_rfl) ?_
 intro _ H6
 dsimp only [setL, delL] at H6
 refine RW.stD H6 0 (vs := [.int .i64 d.1, .int .i64 d.2]) (cs' := [.int .i64 d.1, .int .i64 d.2]) (by kernel_rfl) (by kernel_rfl) rfl rfl rfl rfl rfl (by kernel_rfl) (Nat.le_of_ble_eq_true rfl) rfl (by kernel_rfl) ?_
 intro _ H7
 dsimp only [setL, delL] at H7
 refine RW.v ?_
 refine RW.nil ?_
 refine ⟨⟨by kernel_rfl, ⟨dyn_row (H5.get 1 rfl) (H7.get 1 rfl) ⟨fun h => Bool.noConfusion h, fun h => Bool.noConfusion h, fun _ => H5.get 1 rfl, fun _ => H6.get 1 rfl, fun h => Bool.noConfusion h, trivial⟩, dyn_row (H5.get 0 rfl) (H7.get 0 rfl) ⟨fun h => Bool.noConfusion h, fun h => Bool.noConfusion h, fun _ => H5.get 0 rfl, fun _ => H6.get 0 rfl, fun h => Bool.noConfusion h, trivial⟩, trivial, trivial, trivial, trivial⟩⟩, ?_⟩
 replace H := H7
 clear H5 H6 H7
 refine W.ret ?_
 refine endG (by rfl) (by exact resL_cell rfl (H.get 1 rfl) (by rw [uT_eq]; exact Tryd.underlying28) (by kernel_rfl) rfl rfl (by exact resL_cell rfl (H.get 0 rfl) (by rw [uT_eq]; exact Tryd.underlying28) (by kernel_rfl) rfl rfl (by exact resL_tmp rfl))) ?_
 exact ⟨rfl, ((H.del 1).del 0)⟩
set_option maxHeartbeats 4000000 in
theorem cons_n {w : Wd} (hw : w.1 ≠ 2) (H : Lies G65 (heapAbs h m) F σ L) : WC G65 Tryd.prog 63 #[.agg #[.pointer (some ⟨h, 0, none⟩), .pointer (some ⟨T, 0, none⟩), .int .i64 1, .int .i64 66], wdV w] σ fun v σ' => v = .tuple #[wdV (0, 0), wdV (0, 0), .bool false] ∧ Lies G65 (heapAbs h m) F σ' L := by
 refine WC.enter (fn := Tryd.f63) Tryd.func63 rfl ?_
 refine W.rg [(0, .agg #[pp h, pp T, .int .i64 1, .int .i64 66]), (1, .agg #[.int .i64 w.1, .int .i64 w.2])] fun TA => ?_
 refine W.seq (W.region ?_)
 refine RW.mk H (.row ⟨[pt h, pt T, .int .i64 1, .int .i64 66], 65, false⟩) ?_
 clear H; intro _ b1 _ H
 refine RW.mk H (.row ⟨[.int .i64 w.1, .int .i64 w.2], 28, false⟩) ?_
 clear H; intro _ b2 _ H
 refine RW.mk H (.row ⟨[.int .i64 0, .int .i64 0], 28, false⟩) ?_
 clear H; intro _ b3 _ H
 refine RW.mk H (.row ⟨[.int .i64 0, .int .i64 0], 28, false⟩) ?_
 clear H; intro _ b4 _ H
 refine RW.v ?_
 refine RW.nil ?_
 refine W.rg [(2, pp b1), (3, pp b2), (4, pp b3), (5, pp b4)] fun TA => ?_
 refine W.seq ?_
 refine W.seq (W.region ?_)
 refine RW.v ?_
 refine RW.ld H 2 1 ?_
 refine RW.valE (v' := .bool true) (by kernel_rfl) (by kernel_rfl) rfl (congrArg Value.bool (bne_iff_ne.2 (by omega))) (by kernel_rfl) ?_
 refine RW.v ?_
 refine RW.skip (by rfl) (by kernel_rfl) ?_
 refine RW.skip (by rfl) (by kernel_rfl) ?_
 refine RW.skip (by rfl) (by kernel_rfl) ?_
 refine RW.skip (by rfl) (by kernel_rfl) ?_
 refine RW.skip (by rfl) (by kernel_rfl) ?_
 refine RW.v ?_
 refine RW.nil ?_
 refine W.c1 ?_
 refine W.seq (W.region ?_)
 refine RW.val (v := .agg #[.int .i64 0, .int .i64 0]) (by kernel_rfl) (by kernel_rfl) (by kernel_rfl) (by kernel_rfl) ?_
 refine RW.val (v := .agg #[.int .i64 0, .int .i64 0]) (by kernel_rfl) (by kernel_rfl) (by kernel_rfl) (by kernel_rfl) ?_
 refine RW.st H 1 [.int .i64 0, .int .i64 0] [.int .i64 0, .int .i64 0] ?_
 clear H; intro _ _ H; dsimp only [setL, delL] at H
 refine RW.st H 0 [.int .i64 0, .int .i64 0] [.int .i64 0, .int .i64 0] ?_
 clear H; intro _ _ H; dsimp only [setL, delL] at H
 refine RW.v ?_
 refine RW.nil ?_
 replace H := ((H.del 3).del 2)
 dsimp only [setL, delL] at H
 refine W.ret ?_
 refine seqQ_ret ?_
 refine endG (by rfl) (by exact resL_cell rfl (H.get 1 rfl) (by rw [uT_eq]; exact Tryd.underlying28) (by kernel_rfl) rfl rfl (by exact resL_cell rfl (H.get 0 rfl) (by rw [uT_eq]; exact Tryd.underlying28) (by kernel_rfl) rfl rfl (by exact resL_tmp rfl))) ?_
 exact ⟨rfl, ((H.del 1).del 0)⟩
set_option maxHeartbeats 4000000 in
theorem isMap_y {w d : Wd} (hf : m.find w = some (.pair (1, 66) d)) (H : Lies G65 (heapAbs h m) F σ L) : WC G65 Tryd.prog 35 #[.agg #[.pointer (some ⟨h, 0, none⟩), .pointer (some ⟨T, 0, none⟩), .int .i64 1, .int .i64 66], wdV w] σ fun v σ' => v = .bool true ∧ Lies G65 (heapAbs h m) F σ' L := by
 refine WC.enter (fn := Tryd.f35) Tryd.func35 rfl ?_
 refine W.rg [(0, .agg #[pp h, pp T, .int .i64 1, .int .i64 66]), (1, .agg #[.int .i64 w.1, .int .i64 w.2])] fun TA => ?_
 refine W.seq (W.region ?_)
 refine RW.mk H (.row ⟨[pt h, pt T, .int .i64 1, .int .i64 66], 65, false⟩) ?_
 clear H; intro _ b1 _ H
 refine RW.mk H (.row ⟨[.int .i64 w.1, .int .i64 w.2], 28, false⟩) ?_
 clear H; intro _ b2 _ H
 refine RW.v ?_
 refine RW.nil ?_
 refine W.rg [(2, pp b1), (3, pp b2)] fun TA => ?_
 refine W.seq (W.region ?_)
 refine RW.ld H 1 4 ?_
 refine RW.ld H 0 2 ?_
 refine RW.cl ?_
 refine ((cons_y (h := h) (T := T) (a := ((1, 66) : Wd)) (d := d) hf H).mono ?_)
 clear H
 rintro _ _ ⟨rfl, H⟩
 iterate 4 refine RW.v ?_
 refine RW.mk H (.row ⟨[.int .i64 0, .int .i64 0], 28, false⟩) ?_
 clear H; intro _ b3 _ H
 refine RW.mk H (.row ⟨[.int .i64 0, .int .i64 0], 28, false⟩) ?_
 clear H; intro _ b4 _ H
 refine RW.st H 1 [.int .i64 1, .int .i64 66] [.int .i64 1, .int .i64 66] ?_
 clear H; intro _ _ H; dsimp only [setL, delL] at H
 refine RW.st H 0 [.int .i64 d.1, .int .i64 d.2] [.int .i64 d.1, .int .i64 d.2] ?_
 clear H; intro _ _ H; dsimp only [setL, delL] at H
 refine RW.v ?_
 refine RW.nil ?_
 replace H := ((H.del 2).del 0)
 dsimp only [setL, delL] at H
 refine W.rg [(2, pp b1), (5, pp b3), (7, .bool true)] fun TA => ?_
 refine W.seq (W.region ?_)
 iterate 2 refine RW.v ?_
 refine RW.val (by rfl) (by kernel_rfl) rfl (by kernel_rfl) ?_
 refine RW.val (by rfl) (by kernel_rfl) rfl (by kernel_rfl) ?_
 refine RW.ldL H 1 1 (by rfl) (by kernel_rfl) rfl rfl rfl rfl rfl (by kernel_rfl) ?_
 refine RW.val (by rfl) (by kernel_rfl) rfl (by kernel_rfl) ?_
 iterate 2 refine RW.v ?_
 refine RW.ldL H 0 2 (by rfl) (by kernel_rfl) rfl rfl rfl rfl rfl (by kernel_rfl) ?_
 refine RW.val (by rfl) (by kernel_rfl) rfl (by kernel_rfl) ?_
 refine RW.ldL H 1 2 (by rfl) (by kernel_rfl) rfl rfl rfl rfl rfl (by kernel_rfl) ?_
 refine RW.vop (v := .bool true) (by rfl) (by kernel_rfl) (vop_eqS (b := true) (r := true) rfl (.inl ⟨rfl, rfl⟩) rfl rfl rfl rfl (by kernel_rfl) (fun w => (eqWd _ _ _ _ w).trans (by simp))) (by kernel_rfl) ?_
 iterate 2 refine RW.v ?_
 refine RW.nil ?_
 replace H := ((H.del 1).del 0)
 dsimp only [setL, delL] at H
 refine W.ret ?_
 refine endG (by rfl) (by exact resL_tmp rfl) ?_
 exact ⟨rfl, H⟩
set_option maxHeartbeats 4000000 in
theorem isMap_o {w a d : Wd} (hf : m.find w = some (.pair a d)) (hn : (a.1 == 1 && a.2 == 66) = false) (H : Lies G65 (heapAbs h m) F σ L) : WC G65 Tryd.prog 35 #[.agg #[.pointer (some ⟨h, 0, none⟩), .pointer (some ⟨T, 0, none⟩), .int .i64 1, .int .i64 66], wdV w] σ fun v σ' => v = .bool false ∧ Lies G65 (heapAbs h m) F σ' L := by
 refine WC.enter (fn := Tryd.f35) Tryd.func35 rfl ?_
 refine W.rg [(0, .agg #[pp h, pp T, .int .i64 1, .int .i64 66]), (1, .agg #[.int .i64 w.1, .int .i64 w.2])] fun TA => ?_
 refine W.seq (W.region ?_)
 refine RW.mk H (.row ⟨[pt h, pt T, .int .i64 1, .int .i64 66], 65, false⟩) ?_
 clear H; intro _ b1 _ H
 refine RW.mk H (.row ⟨[.int .i64 w.1, .int .i64 w.2], 28, false⟩) ?_
 clear H; intro _ b2 _ H
 refine RW.v ?_
 refine RW.nil ?_
 refine W.rg [(2, pp b1), (3, pp b2)] fun TA => ?_
 refine W.seq (W.region ?_)
 refine RW.ld H 1 4 ?_
 refine RW.ld H 0 2 ?_
 refine RW.cl ?_
 refine ((cons_y (h := h) (T := T) (a := ((a.1, a.2) : Wd)) (d := d) hf H).mono ?_)
 clear H
 rintro _ _ ⟨rfl, H⟩
 iterate 4 refine RW.v ?_
 refine RW.mk H (.row ⟨[.int .i64 0, .int .i64 0], 28, false⟩) ?_
 clear H; intro _ b3 _ H
 refine RW.mk H (.row ⟨[.int .i64 0, .int .i64 0], 28, false⟩) ?_
 clear H; intro _ b4 _ H
 refine RW.st H 1 [.int .i64 a.1, .int .i64 a.2] [.int .i64 a.1, .int .i64 a.2] ?_
 clear H; intro _ _ H; dsimp only [setL, delL] at H
 refine RW.st H 0 [.int .i64 d.1, .int .i64 d.2] [.int .i64 d.1, .int .i64 d.2] ?_
 clear H; intro _ _ H; dsimp only [setL, delL] at H
 refine RW.v ?_
 refine RW.nil ?_
 replace H := ((H.del 2).del 0)
 dsimp only [setL, delL] at H
 refine W.rg [(2, pp b1), (5, pp b3), (7, .bool true)] fun TA => ?_
 refine W.seq (W.region ?_)
 iterate 2 refine RW.v ?_
 refine RW.val (by rfl) (by kernel_rfl) rfl (by kernel_rfl) ?_
 refine RW.val (by rfl) (by kernel_rfl) rfl (by kernel_rfl) ?_
 refine RW.ldL H 1 1 (by rfl) (by kernel_rfl) rfl rfl rfl rfl rfl (by kernel_rfl) ?_
 refine RW.val (by rfl) (by kernel_rfl) rfl (by kernel_rfl) ?_
 iterate 2 refine RW.v ?_
 refine RW.ldL H 0 2 (by rfl) (by kernel_rfl) rfl rfl rfl rfl rfl (by kernel_rfl) ?_
 refine RW.val (by rfl) (by kernel_rfl) rfl (by kernel_rfl) ?_
 refine RW.ldL H 1 2 (by rfl) (by kernel_rfl) rfl rfl rfl rfl rfl (by kernel_rfl) ?_
 refine RW.vop (v := .bool false) (by rfl) (by kernel_rfl) (vop_eqS (b := false) (r := false) rfl (.inl ⟨rfl, rfl⟩) rfl rfl rfl rfl (by kernel_rfl) (fun w => (eqWd _ _ _ _ w).trans (by (first | refine congrArg (Result.ok · w) ?_ | skip); exact hn))) (by kernel_rfl) ?_
 iterate 2 refine RW.v ?_
 refine RW.nil ?_
 replace H := ((H.del 1).del 0)
 dsimp only [setL, delL] at H
 refine W.ret ?_
 refine endG (by rfl) (by exact resL_tmp rfl) ?_
 exact ⟨rfl, H⟩
set_option maxHeartbeats 4000000 in
theorem isMap_n {w : Wd} (hw : w.1 ≠ 2) (H : Lies G65 (heapAbs h m) F σ L) : WC G65 Tryd.prog 35 #[.agg #[.pointer (some ⟨h, 0, none⟩), .pointer (some ⟨T, 0, none⟩), .int .i64 1, .int .i64 66], wdV w] σ fun v σ' => v = .bool false ∧ Lies G65 (heapAbs h m) F σ' L := by
 refine WC.enter (fn := Tryd.f35) Tryd.func35 rfl ?_
 refine W.rg [(0, .agg #[pp h, pp T, .int .i64 1, .int .i64 66]), (1, .agg #[.int .i64 w.1, .int .i64 w.2])] fun TA => ?_
 refine W.seq (W.region ?_)
 refine RW.mk H (.row ⟨[pt h, pt T, .int .i64 1, .int .i64 66], 65, false⟩) ?_
 clear H; intro _ b1 _ H
 refine RW.mk H (.row ⟨[.int .i64 w.1, .int .i64 w.2], 28, false⟩) ?_
 clear H; intro _ b2 _ H
 refine RW.v ?_
 refine RW.nil ?_
 refine W.rg [(2, pp b1), (3, pp b2)] fun TA => ?_
 refine W.seq (W.region ?_)
 refine RW.ld H 1 4 ?_
 refine RW.ld H 0 2 ?_
 refine RW.cl ?_
 refine ((cons_n (h := h) (T := T) hw H).mono ?_)
 clear H
 rintro _ _ ⟨rfl, H⟩
 iterate 4 refine RW.v ?_
 refine RW.mk H (.row ⟨[.int .i64 0, .int .i64 0], 28, false⟩) ?_
 clear H; intro _ b3 _ H
 refine RW.mk H (.row ⟨[.int .i64 0, .int .i64 0], 28, false⟩) ?_
 clear H; intro _ b4 _ H
 refine RW.st H 1 [.int .i64 0, .int .i64 0] [.int .i64 0, .int .i64 0] ?_
 clear H; intro _ _ H; dsimp only [setL, delL] at H
 refine RW.st H 0 [.int .i64 0, .int .i64 0] [.int .i64 0, .int .i64 0] ?_
 clear H; intro _ _ H; dsimp only [setL, delL] at H
 refine RW.v ?_
 refine RW.nil ?_
 replace H := ((H.del 2).del 0)
 dsimp only [setL, delL] at H
 refine W.rg [(2, pp b1), (5, pp b3), (7, .bool false)] fun TA => ?_
 refine W.seq (W.region ?_)
 iterate 2 refine RW.v ?_
 refine RW.skip (by rfl) (by kernel_rfl) ?_
 refine RW.skip (by rfl) (by kernel_rfl) ?_
 refine RW.skip (by rfl) (by kernel_rfl) ?_
 refine RW.skip (by rfl) (by kernel_rfl) ?_
 iterate 2 refine RW.v ?_
 refine RW.skip (by rfl) (by kernel_rfl) ?_
 refine RW.skip (by rfl) (by kernel_rfl) ?_
 refine RW.skip (by rfl) (by kernel_rfl) ?_
 refine RW.skip (by rfl) (by kernel_rfl) ?_
 iterate 2 refine RW.v ?_
 refine RW.nil ?_
 replace H := ((H.del 1).del 0)
 dsimp only [setL, delL] at H
 refine W.ret ?_
 refine endG (by rfl) (by exact resL_tmp rfl) ?_
 exact ⟨rfl, H⟩
end
end Go.Proofs.YtdbmflnkdoeaoaaDoor
