/-
  Raw and From: the word of a prefix argument, and back. Conditions: the heap lies there as HeapAt says, the variable none as laid.
-/
import Derived.Test.YthemeeiedlbhkaaGreatDoorCrb
import Derived.Test.YthemeeiedlbhkaaGreatDoorC1
import Derived.Test.YthemeeiedlbhkaaGreatDoorS4
namespace Go.Proofs.YthemeeiedlbhkaaGreatDoor
set_option maxRecDepth 100000
/-- The word of a prefix argument: what it is in the heap, and in the table. -/
def RawR (m : HM) (d : Bool) (k n : Int) (w : Wd) : Prop := (k = 0 ∧ w = (1, 0)) ∨ (k = 1 ∧ ∃ x, w = (2, x) ∧ m.find w = some (.pair (0, n) (1, 0))) ∨ (k = 2 ∧ w = (1, 62) ∧ d = true) ∨ (k = 3 ∧ w = (0, n))
section
variable {h : Nat} {m : HM} {σ : Mem} {F : Nat → Option Blk2} {L : List Ent} {T M : Nat} {u : Value} {d c : Bool} {k n : Int}
theorem row_vw1 {b : Nat} {x : Wd} {t : TypeId} {g : Bool} (H : σ.get b = some (.row ⟨[.int .i64 x.1, .int .i64 x.2], t, g⟩)) : Vw σ (.slice (some ⟨b, 0, none⟩) 1 1) [x] :=
  ⟨by kernel_rfl, fun _ => .some H rfl fun i z hi => by rw [Nat.zero_add]; exact hi⟩
theorem cdrY_call {G : Nat} {k : Int} {a d : Wd} (ha : σ.abs = heapAbs h m) (hf : m.find (2, k) = some (.pair a d)) : SCall G Tryz.prog 129 #[.pointer (some ⟨h, 0, none⟩), .agg #[.int .i64 2, .int .i64 k]] σ (.tuple #[.agg #[.int .i64 d.1, .int .i64 d.2], .int .i64 0]) σ := by
  have := s_cdr (G := G) (2, k) ha
  have e : m.cdr (2, k) = (d, 0) := by simp [HM.cdr, hf]
  rwa [e] at this
theorem made_cons (hf : m.free = []) (n : Int) : ∃ x, (built m [((0, n) : Wd)] (1, 0)).2 = (2, x) ∧ (built m [((0, n) : Wd)] (1, 0)).1.find (built m [((0, n) : Wd)] (1, 0)).2 = some (.pair (0, n) (1, 0)) := by
  have hp := (chain_built m [((0, n) : Wd)]).2 0 (by simp)
  have hw : (built m [((0, n) : Wd)] (1, 0)).2 = consOf m [((0, n) : Wd)] (1, 0) 0 := built_word m _ _
  refine ⟨(built m [((0, n) : Wd)] (1, 0)).2.2, Prod.ext built_kind rfl, ?_⟩
  rw [hw]
  exact hp
set_option maxHeartbeats 8000000 in
theorem raw_wc (hp : Pfx k n c) {tN : TypeId} {gN : Bool} (hN : F 0 = some (.row ⟨[.int .i64 1, .int .i64 0], tN, gN⟩)) (hf : m.free = []) (hr : m.many + 1 ≤ m.limit) (hlim : m.limit ≤ 65536) (H : Lies G65 (heapAbs h m) F σ (tabL T M u d ++ L)) :
    WC G65 Tryz.prog 37 #[pp h, pp T, preV k n c] σ fun v σ' => ∃ m' u' d' w, v = .tuple #[wdV w, .int .i64 0] ∧ RawR m' d' k n w ∧ ExtH m m' 1 ∧ Lies G65 (heapAbs h m') F σ' (tabL T M u' d' ++ L) := by
  rcases hp with ⟨rfl, rfl, rfl⟩ | ⟨rfl, h1, h2, rfl⟩ | ⟨rfl, rfl, rfl⟩ | ⟨rfl, h1, h2⟩
  · refine WC.enter (fn := Tryz.f37) Tryz.func37 rfl ?_
    refine W.rg [(0, .pointer (some ⟨h, 0, none⟩)), (1, .pointer (some ⟨T, 0, none⟩)), (2, .agg #[.int .i64 0, .int .i64 0, .bool false])] fun TA => ?_
    refine W.seq (W.region ?_)
    refine RW.mk H (.row ⟨[.int .i64 0, .int .i64 0, .bool false], 70, false⟩) ?_
    clear H; intro _ b1 _ H
    refine RW.mk H (.row ⟨[.int .i64 0, .int .i64 0], 76, false⟩) ?_
    clear H; intro _ b2 _ H
    refine RW.v ?_
    refine RW.nil ?_
    refine W.rg [(0, .pointer (some ⟨h, 0, none⟩)), (1, .pointer (some ⟨T, 0, none⟩)), (5, .pointer (some ⟨b1, 0, none⟩)), (6, .pointer (some ⟨b2, 0, none⟩))] fun TA => ?_
    refine W.seq ?_
    refine W.seq (W.region ?_)
    iterate 3 refine RW.v ?_
    refine RW.val (by rfl) (by kernel_rfl) rfl (by kernel_rfl) ?_
    refine RW.val (by rfl) (by kernel_rfl) rfl (by kernel_rfl) ?_
    refine RW.v ?_
    refine RW.nil ?_
    refine W.rg [(0, .pointer (some ⟨h, 0, none⟩)), (1, .pointer (some ⟨T, 0, none⟩)), (5, .pointer (some ⟨b1, 0, none⟩)), (6, .pointer (some ⟨b2, 0, none⟩)), (17, .bool false)] fun TA => ?_
    refine W.c0 ?_
    refine W.skip ?_
    refine W.seq (W.region ?_)
    refine RW.ld H 1 3 ?_
    refine RW.call (by kernel_rfl) (by kernel_rfl) rfl rfl rfl (by kernel_rfl) (by kernel_rfl) ((valid_wc (G := G65) (k := 0) (n := 0) (c := false) (.inl ⟨rfl, rfl, rfl⟩) H).mono ?_)
    clear H
    rintro _ _ ⟨rfl, H⟩
    refine RW.st H 1 [.int .i64 0, .int .i64 0, .bool false] [.int .i64 0, .int .i64 0, .bool false] ?_
    clear H; intro _ _ H; dsimp only [setL, delL] at H
    refine RW.nil ?_
    refine W.rg [(0, .pointer (some ⟨h, 0, none⟩)), (1, .pointer (some ⟨T, 0, none⟩)), (5, .pointer (some ⟨b1, 0, none⟩)), (6, .pointer (some ⟨b2, 0, none⟩))] fun TA => ?_
    refine W.seq ?_
    refine W.seq (W.region ?_)
    refine RW.v ?_
    refine RW.ld H 1 1 ?_
    refine RW.nil ?_
    refine W.rg [(0, .pointer (some ⟨h, 0, none⟩)), (1, .pointer (some ⟨T, 0, none⟩)), (5, .pointer (some ⟨b1, 0, none⟩)), (6, .pointer (some ⟨b2, 0, none⟩)), (22, .int .i64 0)] fun TA => ?_
    refine W.block ?_
    refine W.seq (W.region ?_)
    iterate 2 refine RW.v ?_
    refine RW.nil ?_
    refine W.rg [(0, .pointer (some ⟨h, 0, none⟩)), (1, .pointer (some ⟨T, 0, none⟩)), (5, .pointer (some ⟨b1, 0, none⟩)), (6, .pointer (some ⟨b2, 0, none⟩)), (22, .int .i64 0), (23, .bool false)] fun TA => ?_
    refine W.c0 ?_
    refine W.seq (W.region ?_)
    iterate 2 refine RW.v ?_
    refine RW.nil ?_
    refine W.rg [(0, .pointer (some ⟨h, 0, none⟩)), (1, .pointer (some ⟨T, 0, none⟩)), (5, .pointer (some ⟨b1, 0, none⟩)), (6, .pointer (some ⟨b2, 0, none⟩)), (22, .int .i64 0), (28, .bool false)] fun TA => ?_
    refine W.c0 ?_
    refine W.seq (W.region ?_)
    iterate 2 refine RW.v ?_
    refine RW.nil ?_
    replace H := (H.del 1)
    dsimp only [setL, delL] at H
    refine W.rg [(1, .pointer (some ⟨T, 0, none⟩)), (6, .pointer (some ⟨b2, 0, none⟩)), (43, .bool false)] fun TA => ?_
    refine W.c0 ?_
    refine W.skip ?_
    refine blkQ_normal ?_
    refine W.seq (W.region ?_)
    refine RW.loads 2 (by kernel_rfl) (by kernel_rfl) rfl rfl (H.old _ _ hN) rfl rfl (by kernel_rfl) ?_
    refine RW.st H 0 [.int .i64 1, .int .i64 0] [.int .i64 1, .int .i64 0] ?_
    clear H; intro _ _ H; dsimp only [setL, delL] at H
    refine RW.v ?_
    refine RW.nil ?_
    refine W.rg [(6, .pointer (some ⟨b2, 0, none⟩)), (7, .int .i64 0)] fun TA => ?_
    refine W.ret ?_
    refine endG (by rfl) (by exact resL_cell rfl (H.get 0 rfl) (by rw [uT_eq]; exact Tryz.underlying76) (by kernel_rfl) rfl rfl (by exact resL_tmp rfl)) ?_
    exact ⟨m, u, d, _, rfl, .inl ⟨rfl, rfl⟩, ((ExtH.refl hf).le (by omega)), (H.del 0)⟩
  · refine WC.enter (fn := Tryz.f37) Tryz.func37 rfl ?_
    refine W.rg [(0, .pointer (some ⟨h, 0, none⟩)), (1, .pointer (some ⟨T, 0, none⟩)), (2, .agg #[.int .i64 1, .int .i64 n, .bool false])] fun TA => ?_
    refine W.seq (W.region ?_)
    refine RW.mk H (.row ⟨[.int .i64 1, .int .i64 n, .bool false], 70, false⟩) ?_
    clear H; intro _ b3 _ H
    refine RW.mk H (.row ⟨[.int .i64 0, .int .i64 0], 76, false⟩) ?_
    clear H; intro _ b4 _ H
    refine RW.v ?_
    refine RW.nil ?_
    refine W.rg [(0, .pointer (some ⟨h, 0, none⟩)), (1, .pointer (some ⟨T, 0, none⟩)), (5, .pointer (some ⟨b3, 0, none⟩)), (6, .pointer (some ⟨b4, 0, none⟩))] fun TA => ?_
    refine W.seq ?_
    refine W.seq (W.region ?_)
    iterate 3 refine RW.v ?_
    refine RW.val (by rfl) (by kernel_rfl) rfl (by kernel_rfl) ?_
    refine RW.val (by rfl) (by kernel_rfl) rfl (by kernel_rfl) ?_
    refine RW.v ?_
    refine RW.nil ?_
    refine W.rg [(0, .pointer (some ⟨h, 0, none⟩)), (1, .pointer (some ⟨T, 0, none⟩)), (5, .pointer (some ⟨b3, 0, none⟩)), (6, .pointer (some ⟨b4, 0, none⟩)), (17, .bool false)] fun TA => ?_
    refine W.c0 ?_
    refine W.skip ?_
    refine W.seq (W.region ?_)
    refine RW.ld H 1 3 ?_
    refine RW.call (by kernel_rfl) (by kernel_rfl) rfl rfl rfl (by kernel_rfl) (by kernel_rfl) ((valid_wc (G := G65) (k := 1) (n := n) (c := false) (.inr (.inl ⟨rfl, by omega, by omega, rfl⟩)) H).mono ?_)
    clear H
    rintro _ _ ⟨rfl, H⟩
    refine RW.st H 1 [.int .i64 1, .int .i64 n, .bool false] [.int .i64 1, .int .i64 n, .bool false] ?_
    clear H; intro _ _ H; dsimp only [setL, delL] at H
    refine RW.nil ?_
    refine W.rg [(0, .pointer (some ⟨h, 0, none⟩)), (1, .pointer (some ⟨T, 0, none⟩)), (5, .pointer (some ⟨b3, 0, none⟩)), (6, .pointer (some ⟨b4, 0, none⟩))] fun TA => ?_
    refine W.seq ?_
    refine W.seq (W.region ?_)
    refine RW.v ?_
    refine RW.ld H 1 1 ?_
    refine RW.nil ?_
    refine W.rg [(0, .pointer (some ⟨h, 0, none⟩)), (1, .pointer (some ⟨T, 0, none⟩)), (5, .pointer (some ⟨b3, 0, none⟩)), (6, .pointer (some ⟨b4, 0, none⟩)), (22, .int .i64 1)] fun TA => ?_
    refine W.block ?_
    refine W.seq (W.region ?_)
    iterate 2 refine RW.v ?_
    refine RW.nil ?_
    refine W.rg [(0, .pointer (some ⟨h, 0, none⟩)), (1, .pointer (some ⟨T, 0, none⟩)), (5, .pointer (some ⟨b3, 0, none⟩)), (6, .pointer (some ⟨b4, 0, none⟩)), (22, .int .i64 1), (23, .bool false)] fun TA => ?_
    refine W.c0 ?_
    refine W.seq (W.region ?_)
    iterate 2 refine RW.v ?_
    refine RW.nil ?_
    refine W.rg [(0, .pointer (some ⟨h, 0, none⟩)), (1, .pointer (some ⟨T, 0, none⟩)), (5, .pointer (some ⟨b3, 0, none⟩)), (6, .pointer (some ⟨b4, 0, none⟩)), (22, .int .i64 1), (28, .bool true)] fun TA => ?_
    refine W.c1 ?_
    refine W.seq (W.region ?_)
    iterate 2 refine RW.v ?_
    refine RW.ld H 1 1 ?_
    refine RW.val (v := .agg #[.int .i64 0, .int .i64 n]) (by kernel_rfl) (by kernel_rfl) (by kernel_rfl) (by kernel_rfl) ?_
    refine RW.mkL H (x := .row ⟨[.int .i64 0, .int .i64 n], 76, false⟩) (fm := fun b => .slice (some ⟨b, 0, none⟩) 1 1) (by kernel_rfl) (by kernel_rfl) (by kernel_rfl) (by kernel_rfl) ?_
    clear H; intro _ b5 _ H
    refine RW.call (by kernel_rfl) (by kernel_rfl) rfl rfl rfl (by kernel_rfl) (by kernel_rfl) ((make_lies (G := G65) (h := h) (m := m) (l := [((0, n) : Wd)]) H (row_vw1 (x := ((0, n) : Wd)) (H.get 0 rfl)) rfl hf (by show _ + 1 ≤ _; omega) (by omega) hlim).mono ?_)
    clear H
    rintro _ _ ⟨rfl, H⟩
    iterate 3 refine RW.v ?_
    refine RW.mk H (.row ⟨[.int .i64 0, .int .i64 0], 76, false⟩) ?_
    clear H; intro _ b6 _ H
    refine RW.st H 0 [.int .i64 ((built m [((0, n) : Wd)] (1, 0)).2.1), .int .i64 ((built m [((0, n) : Wd)] (1, 0)).2.2)] [.int .i64 ((built m [((0, n) : Wd)] (1, 0)).2.1), .int .i64 ((built m [((0, n) : Wd)] (1, 0)).2.2)] ?_
    clear H; intro _ _ H; dsimp only [setL, delL] at H
    refine RW.v ?_
    refine RW.nil ?_
    replace H := ((H.del 3).del 1)
    dsimp only [setL, delL] at H
    refine W.rg [(6, .pointer (some ⟨b4, 0, none⟩)), (8, .pointer (some ⟨b6, 0, none⟩)), (9, .int .i64 0)] fun TA => ?_
    refine W.seq ?_
    refine W.seq (W.region ?_)
    iterate 2 refine RW.v ?_
    refine RW.nil ?_
    refine W.rg [(6, .pointer (some ⟨b4, 0, none⟩)), (8, .pointer (some ⟨b6, 0, none⟩)), (40, .bool false)] fun TA => ?_
    refine W.c0 ?_
    refine W.skip ?_
    refine W.seq (W.region ?_)
    refine RW.ld H 0 2 ?_
    refine RW.st H 1 [.int .i64 ((built m [((0, n) : Wd)] (1, 0)).2.1), .int .i64 ((built m [((0, n) : Wd)] (1, 0)).2.2)] [.int .i64 ((built m [((0, n) : Wd)] (1, 0)).2.1), .int .i64 ((built m [((0, n) : Wd)] (1, 0)).2.2)] ?_
    clear H; intro _ _ H; dsimp only [setL, delL] at H
    refine RW.v ?_
    refine RW.nil ?_
    replace H := (H.del 0)
    dsimp only [setL, delL] at H
    refine W.rg [(6, .pointer (some ⟨b4, 0, none⟩)), (7, .int .i64 0)] fun TA => ?_
    refine W.ret ?_
    refine blkQ_ret ?_
    refine seqQ_ret ?_
    refine endG (by rfl) (by exact resL_cell rfl (H.get 0 rfl) (by rw [uT_eq]; exact Tryz.underlying76) (by kernel_rfl) rfl rfl (by exact resL_tmp rfl)) ?_
    exact ⟨(built m [((0, n) : Wd)] (1, 0)).1, u, d, _, rfl, .inr (.inl ⟨rfl, made_cons hf n⟩), (ext_built hf [((0, n) : Wd)] (1, 0)), (H.del 0)⟩
  · refine WC.enter (fn := Tryz.f37) Tryz.func37 rfl ?_
    refine W.rg [(0, .pointer (some ⟨h, 0, none⟩)), (1, .pointer (some ⟨T, 0, none⟩)), (2, .agg #[.int .i64 2, .int .i64 0, .bool false])] fun TA => ?_
    refine W.seq (W.region ?_)
    refine RW.mk H (.row ⟨[.int .i64 2, .int .i64 0, .bool false], 70, false⟩) ?_
    clear H; intro _ b7 _ H
    refine RW.mk H (.row ⟨[.int .i64 0, .int .i64 0], 76, false⟩) ?_
    clear H; intro _ b8 _ H
    refine RW.v ?_
    refine RW.nil ?_
    refine W.rg [(0, .pointer (some ⟨h, 0, none⟩)), (1, .pointer (some ⟨T, 0, none⟩)), (5, .pointer (some ⟨b7, 0, none⟩)), (6, .pointer (some ⟨b8, 0, none⟩))] fun TA => ?_
    refine W.seq ?_
    refine W.seq (W.region ?_)
    iterate 3 refine RW.v ?_
    refine RW.val (by rfl) (by kernel_rfl) rfl (by kernel_rfl) ?_
    refine RW.val (by rfl) (by kernel_rfl) rfl (by kernel_rfl) ?_
    refine RW.v ?_
    refine RW.nil ?_
    refine W.rg [(0, .pointer (some ⟨h, 0, none⟩)), (1, .pointer (some ⟨T, 0, none⟩)), (5, .pointer (some ⟨b7, 0, none⟩)), (6, .pointer (some ⟨b8, 0, none⟩)), (17, .bool false)] fun TA => ?_
    refine W.c0 ?_
    refine W.skip ?_
    refine W.seq (W.region ?_)
    refine RW.ld H 1 3 ?_
    refine RW.call (by kernel_rfl) (by kernel_rfl) rfl rfl rfl (by kernel_rfl) (by kernel_rfl) ((valid_wc (G := G65) (k := 2) (n := 0) (c := false) (.inr (.inr (.inl ⟨rfl, rfl, rfl⟩))) H).mono ?_)
    clear H
    rintro _ _ ⟨rfl, H⟩
    refine RW.st H 1 [.int .i64 2, .int .i64 0, .bool false] [.int .i64 2, .int .i64 0, .bool false] ?_
    clear H; intro _ _ H; dsimp only [setL, delL] at H
    refine RW.nil ?_
    refine W.rg [(0, .pointer (some ⟨h, 0, none⟩)), (1, .pointer (some ⟨T, 0, none⟩)), (5, .pointer (some ⟨b7, 0, none⟩)), (6, .pointer (some ⟨b8, 0, none⟩))] fun TA => ?_
    refine W.seq ?_
    refine W.seq (W.region ?_)
    refine RW.v ?_
    refine RW.ld H 1 1 ?_
    refine RW.nil ?_
    refine W.rg [(0, .pointer (some ⟨h, 0, none⟩)), (1, .pointer (some ⟨T, 0, none⟩)), (5, .pointer (some ⟨b7, 0, none⟩)), (6, .pointer (some ⟨b8, 0, none⟩)), (22, .int .i64 2)] fun TA => ?_
    refine W.block ?_
    refine W.seq (W.region ?_)
    iterate 2 refine RW.v ?_
    refine RW.nil ?_
    refine W.rg [(0, .pointer (some ⟨h, 0, none⟩)), (1, .pointer (some ⟨T, 0, none⟩)), (5, .pointer (some ⟨b7, 0, none⟩)), (6, .pointer (some ⟨b8, 0, none⟩)), (22, .int .i64 2), (23, .bool false)] fun TA => ?_
    refine W.c0 ?_
    refine W.seq (W.region ?_)
    iterate 2 refine RW.v ?_
    refine RW.nil ?_
    refine W.rg [(0, .pointer (some ⟨h, 0, none⟩)), (1, .pointer (some ⟨T, 0, none⟩)), (5, .pointer (some ⟨b7, 0, none⟩)), (6, .pointer (some ⟨b8, 0, none⟩)), (22, .int .i64 2), (28, .bool false)] fun TA => ?_
    refine W.c0 ?_
    refine W.seq (W.region ?_)
    iterate 2 refine RW.v ?_
    refine RW.nil ?_
    replace H := (H.del 1)
    dsimp only [setL, delL] at H
    refine W.rg [(1, .pointer (some ⟨T, 0, none⟩)), (6, .pointer (some ⟨b8, 0, none⟩)), (43, .bool true)] fun TA => ?_
    refine W.c1 ?_
    refine W.seq (W.region ?_)
    refine RW.v ?_
    replace H := H.rot (B := [.at_ b8 (.row ⟨[.int .i64 0, .int .i64 0], 76, false⟩)]) (X := tabL T M u d) (L := L)
    refine RW.call (by kernel_rfl) (by kernel_rfl) rfl rfl rfl (by kernel_rfl) (by kernel_rfl) ((intern_wc H).mono ?_)
    clear H
    rintro _ _ ⟨rfl, u9, H⟩
    replace H : Lies G65 (heapAbs h m) F _ (.at_ b8 (.row ⟨[.int .i64 0, .int .i64 0], 76, false⟩) :: (tabL T M u9 true ++ L)) := H.rot (B := tabL T M u9 true) (X := [.at_ b8 (.row ⟨[.int .i64 0, .int .i64 0], 76, false⟩)]) (L := L)
    iterate 5 refine RW.v ?_
    refine RW.nil ?_
    refine W.rg [(6, .pointer (some ⟨b8, 0, none⟩)), (10, .int .i64 62), (11, .int .i64 0)] fun TA => ?_
    refine W.seq ?_
    refine W.seq (W.region ?_)
    iterate 2 refine RW.v ?_
    refine RW.nil ?_
    refine W.rg [(6, .pointer (some ⟨b8, 0, none⟩)), (10, .int .i64 62), (51, .bool false)] fun TA => ?_
    refine W.c0 ?_
    refine W.skip ?_
    refine W.seq (W.region ?_)
    refine RW.v ?_
    refine RW.val (v := .agg #[.int .i64 1, .int .i64 62]) (by kernel_rfl) (by kernel_rfl) (by kernel_rfl) (by kernel_rfl) ?_
    refine RW.st H 0 [.int .i64 1, .int .i64 62] [.int .i64 1, .int .i64 62] ?_
    clear H; intro _ _ H; dsimp only [setL, delL] at H
    refine RW.v ?_
    refine RW.nil ?_
    refine W.rg [(6, .pointer (some ⟨b8, 0, none⟩)), (7, .int .i64 0)] fun TA => ?_
    refine W.ret ?_
    refine blkQ_ret ?_
    refine seqQ_ret ?_
    refine endG (by rfl) (by exact resL_cell rfl (H.get 0 rfl) (by rw [uT_eq]; exact Tryz.underlying76) (by kernel_rfl) rfl rfl (by exact resL_tmp rfl)) ?_
    exact ⟨m, u9, true, _, rfl, .inr (.inr (.inl ⟨rfl, rfl, rfl⟩)), ((ExtH.refl hf).le (by omega)), (H.del 0)⟩
  · cases c
    · refine WC.enter (fn := Tryz.f37) Tryz.func37 rfl ?_
      refine W.rg [(0, .pointer (some ⟨h, 0, none⟩)), (1, .pointer (some ⟨T, 0, none⟩)), (2, .agg #[.int .i64 3, .int .i64 n, .bool false])] fun TA => ?_
      refine W.seq (W.region ?_)
      refine RW.mk H (.row ⟨[.int .i64 3, .int .i64 n, .bool false], 70, false⟩) ?_
      clear H; intro _ b10 _ H
      refine RW.mk H (.row ⟨[.int .i64 0, .int .i64 0], 76, false⟩) ?_
      clear H; intro _ b11 _ H
      refine RW.v ?_
      refine RW.nil ?_
      refine W.rg [(0, .pointer (some ⟨h, 0, none⟩)), (1, .pointer (some ⟨T, 0, none⟩)), (5, .pointer (some ⟨b10, 0, none⟩)), (6, .pointer (some ⟨b11, 0, none⟩))] fun TA => ?_
      refine W.seq ?_
      refine W.seq (W.region ?_)
      iterate 3 refine RW.v ?_
      refine RW.val (by rfl) (by kernel_rfl) rfl (by kernel_rfl) ?_
      refine RW.val (by rfl) (by kernel_rfl) rfl (by kernel_rfl) ?_
      refine RW.v ?_
      refine RW.nil ?_
      refine W.rg [(0, .pointer (some ⟨h, 0, none⟩)), (1, .pointer (some ⟨T, 0, none⟩)), (5, .pointer (some ⟨b10, 0, none⟩)), (6, .pointer (some ⟨b11, 0, none⟩)), (17, .bool false)] fun TA => ?_
      refine W.c0 ?_
      refine W.skip ?_
      refine W.seq (W.region ?_)
      refine RW.ld H 1 3 ?_
      refine RW.call (by kernel_rfl) (by kernel_rfl) rfl rfl rfl (by kernel_rfl) (by kernel_rfl) ((valid_wc (G := G65) (k := 3) (n := n) (c := false) (.inr (.inr (.inr ⟨rfl, by omega, by omega⟩))) H).mono ?_)
      clear H
      rintro _ _ ⟨rfl, H⟩
      refine RW.st H 1 [.int .i64 3, .int .i64 n, .bool false] [.int .i64 3, .int .i64 n, .bool false] ?_
      clear H; intro _ _ H; dsimp only [setL, delL] at H
      refine RW.nil ?_
      refine W.rg [(0, .pointer (some ⟨h, 0, none⟩)), (1, .pointer (some ⟨T, 0, none⟩)), (5, .pointer (some ⟨b10, 0, none⟩)), (6, .pointer (some ⟨b11, 0, none⟩))] fun TA => ?_
      refine W.seq ?_
      refine W.seq (W.region ?_)
      refine RW.v ?_
      refine RW.ld H 1 1 ?_
      refine RW.nil ?_
      refine W.rg [(0, .pointer (some ⟨h, 0, none⟩)), (1, .pointer (some ⟨T, 0, none⟩)), (5, .pointer (some ⟨b10, 0, none⟩)), (6, .pointer (some ⟨b11, 0, none⟩)), (22, .int .i64 3)] fun TA => ?_
      refine W.block ?_
      refine W.seq (W.region ?_)
      iterate 2 refine RW.v ?_
      refine RW.nil ?_
      refine W.rg [(0, .pointer (some ⟨h, 0, none⟩)), (1, .pointer (some ⟨T, 0, none⟩)), (5, .pointer (some ⟨b10, 0, none⟩)), (6, .pointer (some ⟨b11, 0, none⟩)), (22, .int .i64 3), (23, .bool true)] fun TA => ?_
      refine W.c1 ?_
      refine W.seq (W.region ?_)
      refine RW.v ?_
      refine RW.ld H 1 1 ?_
      refine RW.val (v := .agg #[.int .i64 0, .int .i64 n]) (by kernel_rfl) (by kernel_rfl) (by kernel_rfl) (by kernel_rfl) ?_
      refine RW.st H 0 [.int .i64 0, .int .i64 n] [.int .i64 0, .int .i64 n] ?_
      clear H; intro _ _ H; dsimp only [setL, delL] at H
      refine RW.v ?_
      refine RW.nil ?_
      replace H := (H.del 1)
      dsimp only [setL, delL] at H
      refine W.rg [(6, .pointer (some ⟨b11, 0, none⟩)), (7, .int .i64 0)] fun TA => ?_
      refine W.ret ?_
      refine blkQ_ret ?_
      refine seqQ_ret ?_
      refine endG (by rfl) (by exact resL_cell rfl (H.get 0 rfl) (by rw [uT_eq]; exact Tryz.underlying76) (by kernel_rfl) rfl rfl (by exact resL_tmp rfl)) ?_
      exact ⟨m, u, d, _, rfl, .inr (.inr (.inr ⟨rfl, rfl⟩)), ((ExtH.refl hf).le (by omega)), (H.del 0)⟩
    · refine WC.enter (fn := Tryz.f37) Tryz.func37 rfl ?_
      refine W.rg [(0, .pointer (some ⟨h, 0, none⟩)), (1, .pointer (some ⟨T, 0, none⟩)), (2, .agg #[.int .i64 3, .int .i64 n, .bool true])] fun TA => ?_
      refine W.seq (W.region ?_)
      refine RW.mk H (.row ⟨[.int .i64 3, .int .i64 n, .bool true], 70, false⟩) ?_
      clear H; intro _ b12 _ H
      refine RW.mk H (.row ⟨[.int .i64 0, .int .i64 0], 76, false⟩) ?_
      clear H; intro _ b13 _ H
      refine RW.v ?_
      refine RW.nil ?_
      refine W.rg [(0, .pointer (some ⟨h, 0, none⟩)), (1, .pointer (some ⟨T, 0, none⟩)), (5, .pointer (some ⟨b12, 0, none⟩)), (6, .pointer (some ⟨b13, 0, none⟩))] fun TA => ?_
      refine W.seq ?_
      refine W.seq (W.region ?_)
      iterate 3 refine RW.v ?_
      refine RW.val (by rfl) (by kernel_rfl) rfl (by kernel_rfl) ?_
      refine RW.val (by rfl) (by kernel_rfl) rfl (by kernel_rfl) ?_
      refine RW.v ?_
      refine RW.nil ?_
      refine W.rg [(0, .pointer (some ⟨h, 0, none⟩)), (1, .pointer (some ⟨T, 0, none⟩)), (5, .pointer (some ⟨b12, 0, none⟩)), (6, .pointer (some ⟨b13, 0, none⟩)), (17, .bool false)] fun TA => ?_
      refine W.c0 ?_
      refine W.skip ?_
      refine W.seq (W.region ?_)
      refine RW.ld H 1 3 ?_
      refine RW.call (by kernel_rfl) (by kernel_rfl) rfl rfl rfl (by kernel_rfl) (by kernel_rfl) ((valid_wc (G := G65) (k := 3) (n := n) (c := true) (.inr (.inr (.inr ⟨rfl, by omega, by omega⟩))) H).mono ?_)
      clear H
      rintro _ _ ⟨rfl, H⟩
      refine RW.st H 1 [.int .i64 3, .int .i64 n, .bool true] [.int .i64 3, .int .i64 n, .bool true] ?_
      clear H; intro _ _ H; dsimp only [setL, delL] at H
      refine RW.nil ?_
      refine W.rg [(0, .pointer (some ⟨h, 0, none⟩)), (1, .pointer (some ⟨T, 0, none⟩)), (5, .pointer (some ⟨b12, 0, none⟩)), (6, .pointer (some ⟨b13, 0, none⟩))] fun TA => ?_
      refine W.seq ?_
      refine W.seq (W.region ?_)
      refine RW.v ?_
      refine RW.ld H 1 1 ?_
      refine RW.nil ?_
      refine W.rg [(0, .pointer (some ⟨h, 0, none⟩)), (1, .pointer (some ⟨T, 0, none⟩)), (5, .pointer (some ⟨b12, 0, none⟩)), (6, .pointer (some ⟨b13, 0, none⟩)), (22, .int .i64 3)] fun TA => ?_
      refine W.block ?_
      refine W.seq (W.region ?_)
      iterate 2 refine RW.v ?_
      refine RW.nil ?_
      refine W.rg [(0, .pointer (some ⟨h, 0, none⟩)), (1, .pointer (some ⟨T, 0, none⟩)), (5, .pointer (some ⟨b12, 0, none⟩)), (6, .pointer (some ⟨b13, 0, none⟩)), (22, .int .i64 3), (23, .bool true)] fun TA => ?_
      refine W.c1 ?_
      refine W.seq (W.region ?_)
      refine RW.v ?_
      refine RW.ld H 1 1 ?_
      refine RW.val (v := .agg #[.int .i64 0, .int .i64 n]) (by kernel_rfl) (by kernel_rfl) (by kernel_rfl) (by kernel_rfl) ?_
      refine RW.st H 0 [.int .i64 0, .int .i64 n] [.int .i64 0, .int .i64 n] ?_
      clear H; intro _ _ H; dsimp only [setL, delL] at H
      refine RW.v ?_
      refine RW.nil ?_
      replace H := (H.del 1)
      dsimp only [setL, delL] at H
      refine W.rg [(6, .pointer (some ⟨b13, 0, none⟩)), (7, .int .i64 0)] fun TA => ?_
      refine W.ret ?_
      refine blkQ_ret ?_
      refine seqQ_ret ?_
      refine endG (by rfl) (by exact resL_cell rfl (H.get 0 rfl) (by rw [uT_eq]; exact Tryz.underlying76) (by kernel_rfl) rfl rfl (by exact resL_tmp rfl)) ?_
      exact ⟨m, u, d, _, rfl, .inr (.inr (.inr ⟨rfl, rfl⟩)), ((ExtH.refl hf).le (by omega)), (H.del 0)⟩
set_option maxHeartbeats 8000000 in
theorem from_wc {w : Wd} (hp : Pfx k n c) (hR : RawR m d k n w) (H : Lies G65 (heapAbs h m) F σ (tabL T M u d ++ L)) :
    WC G65 Tryz.prog 38 #[pp h, pp T, wdV w] σ fun v σ' => v = preV k n false ∧ ∃ u', Lies G65 (heapAbs h m) F σ' (tabL T M u' d ++ L) := by
  rcases hR with ⟨rfl, rfl⟩ | ⟨rfl, x, rfl, hfd⟩ | ⟨rfl, rfl, rfl⟩ | ⟨rfl, rfl⟩
  · obtain rfl : n = 0 := by rcases hp with ⟨_, h, _⟩ | ⟨h, _⟩ | ⟨_, h, _⟩ | ⟨h, _⟩ <;> first | exact h | omega
    refine WC.enter (fn := Tryz.f38) Tryz.func38 rfl ?_
    refine W.rg [(0, .pointer (some ⟨h, 0, none⟩)), (1, .pointer (some ⟨T, 0, none⟩)), (2, .agg #[.int .i64 1, .int .i64 0])] fun TA => ?_
    refine W.seq (W.region ?_)
    refine RW.mk H (.row ⟨[.int .i64 1, .int .i64 0], 76, false⟩) ?_
    clear H; intro _ b1 _ H
    refine RW.mk H (.row ⟨[.int .i64 0, .int .i64 0, .bool false], 70, false⟩) ?_
    clear H; intro _ b2 _ H
    refine RW.nil ?_
    refine W.rg [(0, .pointer (some ⟨h, 0, none⟩)), (1, .pointer (some ⟨T, 0, none⟩)), (5, .pointer (some ⟨b1, 0, none⟩)), (6, .pointer (some ⟨b2, 0, none⟩))] fun TA => ?_
    refine W.seq ?_
    refine W.seq (W.region ?_)
    iterate 3 refine RW.v ?_
    refine RW.val (by rfl) (by kernel_rfl) rfl (by kernel_rfl) ?_
    refine RW.val (by rfl) (by kernel_rfl) rfl (by kernel_rfl) ?_
    refine RW.v ?_
    refine RW.nil ?_
    refine W.rg [(0, .pointer (some ⟨h, 0, none⟩)), (1, .pointer (some ⟨T, 0, none⟩)), (5, .pointer (some ⟨b1, 0, none⟩)), (6, .pointer (some ⟨b2, 0, none⟩)), (17, .bool false)] fun TA => ?_
    refine W.c0 ?_
    refine W.skip ?_
    refine W.seq ?_
    refine W.seq (W.region ?_)
    refine RW.ld H 1 2 ?_
    refine RW.cl ?_
    refine WC.enter (fn := Tryz.f86) Tryz.func86 rfl ?_
    refine W.rg [(0, .agg #[.int .i64 1, .int .i64 0])] fun TA => ?_
    refine W.seq (W.region ?_)
    refine RW.mk H (.row ⟨[.int .i64 1, .int .i64 0], 76, false⟩) ?_
    clear H; intro _ b3 _ H
    refine RW.v ?_
    refine RW.nil ?_
    refine W.rg [(1, .pointer (some ⟨b3, 0, none⟩))] fun TA => ?_
    refine W.seq (W.region ?_)
    refine RW.v ?_
    refine RW.ld H 0 1 ?_
    iterate 2 refine RW.v ?_
    refine RW.skip (by rfl) (by kernel_rfl) ?_
    refine RW.skip (by rfl) (by kernel_rfl) ?_
    refine RW.skip (by rfl) (by kernel_rfl) ?_
    iterate 2 refine RW.v ?_
    refine RW.skip (by rfl) (by kernel_rfl) ?_
    refine RW.skip (by rfl) (by kernel_rfl) ?_
    refine RW.skip (by rfl) (by kernel_rfl) ?_
    iterate 2 refine RW.v ?_
    refine RW.nil ?_
    replace H := (H.del 0)
    dsimp only [setL, delL] at H
    refine W.rg [(2, .bool false)] fun TA => ?_
    refine W.ret ?_
    refine endG (by rfl) (by exact resL_tmp rfl) ?_
    refine RW.nil ?_
    refine W.rg [(0, .pointer (some ⟨h, 0, none⟩)), (1, .pointer (some ⟨T, 0, none⟩)), (5, .pointer (some ⟨b1, 0, none⟩)), (6, .pointer (some ⟨b2, 0, none⟩)), (20, .bool false)] fun TA => ?_
    refine W.c0 ?_
    refine W.skip ?_
    refine W.seq ?_
    refine W.seq (W.region ?_)
    refine RW.v ?_
    refine RW.ld H 1 2 ?_
    refine RW.cl ?_
    refine WC.enter (fn := Tryz.f87) Tryz.func87 rfl ?_
    refine W.rg [(0, .pointer (some ⟨h, 0, none⟩)), (1, .agg #[.int .i64 1, .int .i64 0])] fun TA => ?_
    refine W.seq (W.region ?_)
    refine RW.mk H (.row ⟨[.int .i64 1, .int .i64 0], 76, false⟩) ?_
    clear H; intro _ b4 _ H
    refine RW.mk H (.row ⟨[.int .i64 0, .int .i64 0], 76, false⟩) ?_
    clear H; intro _ b5 _ H
    refine RW.mk H (.row ⟨[.int .i64 0, .int .i64 0], 76, false⟩) ?_
    clear H; intro _ b6 _ H
    refine RW.v ?_
    refine RW.nil ?_
    refine W.rg [(0, .pointer (some ⟨h, 0, none⟩)), (3, .pointer (some ⟨b4, 0, none⟩)), (4, .pointer (some ⟨b5, 0, none⟩)), (5, .pointer (some ⟨b6, 0, none⟩))] fun TA => ?_
    refine W.seq ?_
    refine W.seq (W.region ?_)
    refine RW.v ?_
    refine RW.ld H 2 1 ?_
    refine RW.v ?_
    refine RW.nil ?_
    refine W.rg [(0, .pointer (some ⟨h, 0, none⟩)), (3, .pointer (some ⟨b4, 0, none⟩)), (4, .pointer (some ⟨b5, 0, none⟩)), (5, .pointer (some ⟨b6, 0, none⟩)), (11, .bool true)] fun TA => ?_
    refine W.c1 ?_
    refine W.seq ?_
    refine W.drawn (by kernel_rfl) (by kernel_rfl) H.gn ?_
    have H7 := H
    refine RW.ld H7 1 2 ?_
    refine RW.ld H7 0 2 ?_
    refine RW.stD H7 1 (vs := [.int .i64 0, .int .i64 0]) (cs' := [.int .i64 0, .int .i64 0]) (by kernel_rfl) (by kernel_rfl) rfl rfl rfl rfl rfl (by kernel_rfl) (Nat.le_of_ble_eq_true rfl) rfl (by kernel_rfl) ?_
    intro _ H8
    dsimp only [setL, delL] at H8
    refine RW.stD H8 0 (vs := [.int .i64 0, .int .i64 0]) (cs' := [.int .i64 0, .int .i64 0]) (by kernel_rfl) (by kernel_rfl) rfl rfl rfl rfl rfl (by kernel_rfl) (Nat.le_of_ble_eq_true rfl) rfl (by kernel_rfl) ?_
    intro _ H9
    dsimp only [setL, delL] at H9
    refine RW.v ?_
    refine RW.nil ?_
    refine ⟨⟨by kernel_rfl, ⟨dyn_row (H7.get 1 rfl) (H9.get 1 rfl) ⟨fun h => Bool.noConfusion h, fun h => Bool.noConfusion h, fun _ => H7.get 1 rfl, fun _ => H8.get 1 rfl, fun h => Bool.noConfusion h, trivial⟩, dyn_row (H7.get 0 rfl) (H9.get 0 rfl) ⟨fun h => Bool.noConfusion h, fun h => Bool.noConfusion h, fun _ => H7.get 0 rfl, fun _ => H8.get 0 rfl, fun h => Bool.noConfusion h, trivial⟩, trivial, trivial, trivial, trivial⟩⟩, ?_⟩
    replace H := H9
    clear H7 H8 H9
    replace H := (H.del 2)
    dsimp only [setL, delL] at H
    refine W.rg [(4, .pointer (some ⟨b5, 0, none⟩)), (5, .pointer (some ⟨b6, 0, none⟩)), (6, .bool false)] fun TA => ?_
    refine W.ret ?_
    refine seqQ_ret ?_
    refine endG (by rfl) (by exact resL_cell rfl (H.get 1 rfl) (by rw [uT_eq]; exact Tryz.underlying76) (by kernel_rfl) rfl rfl (by exact resL_cell rfl (H.get 0 rfl) (by rw [uT_eq]; exact Tryz.underlying76) (by kernel_rfl) rfl rfl (by exact resL_tmp rfl))) ?_
    iterate 4 refine RW.v ?_
    refine RW.mk H (.row ⟨[.int .i64 0, .int .i64 0], 76, false⟩) ?_
    clear H; intro _ b10 _ H
    refine RW.mk H (.row ⟨[.int .i64 0, .int .i64 0], 76, false⟩) ?_
    clear H; intro _ b11 _ H
    refine RW.st H 1 [.int .i64 0, .int .i64 0] [.int .i64 0, .int .i64 0] ?_
    clear H; intro _ _ H; dsimp only [setL, delL] at H
    refine RW.st H 0 [.int .i64 0, .int .i64 0] [.int .i64 0, .int .i64 0] ?_
    clear H; intro _ _ H; dsimp only [setL, delL] at H
    refine RW.v ?_
    refine RW.nil ?_
    replace H := (((H.del 3).del 2).del 0)
    dsimp only [setL, delL] at H
    refine W.rg [(1, .pointer (some ⟨T, 0, none⟩)), (5, .pointer (some ⟨b1, 0, none⟩)), (6, .pointer (some ⟨b2, 0, none⟩)), (7, .pointer (some ⟨b10, 0, none⟩)), (9, .bool false)] fun TA => ?_
    refine W.seq (W.region ?_)
    iterate 2 refine RW.v ?_
    refine RW.skip (by rfl) (by kernel_rfl) ?_
    refine RW.skip (by rfl) (by kernel_rfl) ?_
    refine RW.v ?_
    refine RW.nil ?_
    refine W.rg [(1, .pointer (some ⟨T, 0, none⟩)), (5, .pointer (some ⟨b1, 0, none⟩)), (6, .pointer (some ⟨b2, 0, none⟩)), (7, .pointer (some ⟨b10, 0, none⟩)), (35, .bool false)] fun TA => ?_
    refine W.c0 ?_
    refine W.skip ?_
    refine W.seq ?_
    refine W.seq (W.region ?_)
    iterate 2 refine RW.v ?_
    refine RW.ld H 2 1 ?_
    replace H := H.rot (B := [.at_ b10 (.row ⟨[.int .i64 0, .int .i64 0], 76, false⟩), .at_ b2 (.row ⟨[.int .i64 0, .int .i64 0, .bool false], 70, false⟩), .at_ b1 (.row ⟨[.int .i64 1, .int .i64 0], 76, false⟩)]) (X := tabL T M u d) (L := L)
    refine RW.call (by kernel_rfl) (by kernel_rfl) rfl rfl rfl (by kernel_rfl) (by kernel_rfl) ((name0_wc H).mono ?_)
    clear H
    rintro _ _ ⟨rfl, u12, H⟩
    replace H : Lies G65 (heapAbs h m) F _ (.at_ b10 (.row ⟨[.int .i64 0, .int .i64 0], 76, false⟩) :: .at_ b2 (.row ⟨[.int .i64 0, .int .i64 0, .bool false], 70, false⟩) :: .at_ b1 (.row ⟨[.int .i64 1, .int .i64 0], 76, false⟩) :: (tabL T M u12 d ++ L)) := H.rot (B := tabL T M u12 d) (X := [.at_ b10 (.row ⟨[.int .i64 0, .int .i64 0], 76, false⟩), .at_ b2 (.row ⟨[.int .i64 0, .int .i64 0, .bool false], 70, false⟩), .at_ b1 (.row ⟨[.int .i64 1, .int .i64 0], 76, false⟩)]) (L := L)
    iterate 5 refine RW.v ?_
    refine RW.nil ?_
    replace H := (H.del 0)
    dsimp only [setL, delL] at H
    refine W.rg [(1, .pointer (some ⟨T, 0, none⟩)), (5, .pointer (some ⟨b1, 0, none⟩)), (6, .pointer (some ⟨b2, 0, none⟩)), (10, .string ⟨#[110, 105, 108]⟩), (11, .bool true)] fun TA => ?_
    refine W.seq (W.region ?_)
    refine RW.v ?_
    refine RW.ld H 1 1 ?_
    iterate 2 refine RW.v ?_
    refine RW.val (by rfl) (by kernel_rfl) rfl (by kernel_rfl) ?_
    iterate 2 refine RW.v ?_
    refine RW.val (by rfl) (by kernel_rfl) rfl (by kernel_rfl) ?_
    refine RW.valE (v' := .bool false) (by rfl) (by kernel_rfl) rfl (by kernel_rfl) (by kernel_rfl) ?_
    iterate 2 refine RW.v ?_
    refine RW.skip (by rfl) (by kernel_rfl) ?_
    refine RW.skip (by rfl) (by kernel_rfl) ?_
    refine RW.skip (by rfl) (by kernel_rfl) ?_
    refine RW.skip (by rfl) (by kernel_rfl) ?_
    refine RW.v ?_
    refine RW.nil ?_
    replace H := (H.del 1)
    dsimp only [setL, delL] at H
    refine W.rg [(6, .pointer (some ⟨b2, 0, none⟩)), (61, .bool false)] fun TA => ?_
    refine W.c0 ?_
    refine W.skip ?_
    refine W.seq (W.region ?_)
    refine RW.val (v := .agg #[.int .i64 0, .int .i64 0, .bool false]) (by kernel_rfl) (by kernel_rfl) (by kernel_rfl) (by kernel_rfl) ?_
    refine RW.st H 0 [.int .i64 0, .int .i64 0, .bool false] [.int .i64 0, .int .i64 0, .bool false] ?_
    clear H; intro _ _ H; dsimp only [setL, delL] at H
    refine RW.nil ?_
    refine W.rg [(6, .pointer (some ⟨b2, 0, none⟩))] fun TA => ?_
    refine W.ret ?_
    refine endG (by rfl) (by exact resL_cell rfl (H.get 0 rfl) (by rw [uT_eq]; exact Tryz.underlying70) (by kernel_rfl) rfl rfl rfl) ?_
    exact ⟨rfl, u12, (H.del 0)⟩
  · obtain ⟨h1, h2⟩ : -2305843009213693952 ≤ n ∧ n ≤ 2305843009213693951 := by rcases hp with ⟨h, _⟩ | ⟨_, h1, h2, _⟩ | ⟨h, _⟩ | ⟨_, h1, h2⟩ <;> first | exact ⟨h1, h2⟩ | omega
    refine WC.enter (fn := Tryz.f38) Tryz.func38 rfl ?_
    refine W.rg [(0, .pointer (some ⟨h, 0, none⟩)), (1, .pointer (some ⟨T, 0, none⟩)), (2, .agg #[.int .i64 2, .int .i64 x])] fun TA => ?_
    refine W.seq (W.region ?_)
    refine RW.mk H (.row ⟨[.int .i64 2, .int .i64 x], 76, false⟩) ?_
    clear H; intro _ b13 _ H
    refine RW.mk H (.row ⟨[.int .i64 0, .int .i64 0, .bool false], 70, false⟩) ?_
    clear H; intro _ b14 _ H
    refine RW.nil ?_
    refine W.rg [(0, .pointer (some ⟨h, 0, none⟩)), (1, .pointer (some ⟨T, 0, none⟩)), (5, .pointer (some ⟨b13, 0, none⟩)), (6, .pointer (some ⟨b14, 0, none⟩))] fun TA => ?_
    refine W.seq ?_
    refine W.seq (W.region ?_)
    iterate 3 refine RW.v ?_
    refine RW.val (by rfl) (by kernel_rfl) rfl (by kernel_rfl) ?_
    refine RW.val (by rfl) (by kernel_rfl) rfl (by kernel_rfl) ?_
    refine RW.v ?_
    refine RW.nil ?_
    refine W.rg [(0, .pointer (some ⟨h, 0, none⟩)), (1, .pointer (some ⟨T, 0, none⟩)), (5, .pointer (some ⟨b13, 0, none⟩)), (6, .pointer (some ⟨b14, 0, none⟩)), (17, .bool false)] fun TA => ?_
    refine W.c0 ?_
    refine W.skip ?_
    refine W.seq ?_
    refine W.seq (W.region ?_)
    refine RW.ld H 1 2 ?_
    refine RW.cl ?_
    refine WC.enter (fn := Tryz.f86) Tryz.func86 rfl ?_
    refine W.rg [(0, .agg #[.int .i64 2, .int .i64 x])] fun TA => ?_
    refine W.seq (W.region ?_)
    refine RW.mk H (.row ⟨[.int .i64 2, .int .i64 x], 76, false⟩) ?_
    clear H; intro _ b15 _ H
    refine RW.v ?_
    refine RW.nil ?_
    refine W.rg [(1, .pointer (some ⟨b15, 0, none⟩))] fun TA => ?_
    refine W.seq (W.region ?_)
    refine RW.v ?_
    refine RW.ld H 0 1 ?_
    iterate 2 refine RW.v ?_
    refine RW.skip (by rfl) (by kernel_rfl) ?_
    refine RW.skip (by rfl) (by kernel_rfl) ?_
    refine RW.skip (by rfl) (by kernel_rfl) ?_
    iterate 2 refine RW.v ?_
    refine RW.skip (by rfl) (by kernel_rfl) ?_
    refine RW.skip (by rfl) (by kernel_rfl) ?_
    refine RW.skip (by rfl) (by kernel_rfl) ?_
    iterate 2 refine RW.v ?_
    refine RW.nil ?_
    replace H := (H.del 0)
    dsimp only [setL, delL] at H
    refine W.rg [(2, .bool false)] fun TA => ?_
    refine W.ret ?_
    refine endG (by rfl) (by exact resL_tmp rfl) ?_
    refine RW.nil ?_
    refine W.rg [(0, .pointer (some ⟨h, 0, none⟩)), (1, .pointer (some ⟨T, 0, none⟩)), (5, .pointer (some ⟨b13, 0, none⟩)), (6, .pointer (some ⟨b14, 0, none⟩)), (20, .bool false)] fun TA => ?_
    refine W.c0 ?_
    refine W.skip ?_
    refine W.seq ?_
    refine W.seq (W.region ?_)
    refine RW.v ?_
    refine RW.ld H 1 2 ?_
    refine RW.cl ?_
    refine WC.enter (fn := Tryz.f87) Tryz.func87 rfl ?_
    refine W.rg [(0, .pointer (some ⟨h, 0, none⟩)), (1, .agg #[.int .i64 2, .int .i64 x])] fun TA => ?_
    refine W.seq (W.region ?_)
    refine RW.mk H (.row ⟨[.int .i64 2, .int .i64 x], 76, false⟩) ?_
    clear H; intro _ b16 _ H
    refine RW.mk H (.row ⟨[.int .i64 0, .int .i64 0], 76, false⟩) ?_
    clear H; intro _ b17 _ H
    refine RW.mk H (.row ⟨[.int .i64 0, .int .i64 0], 76, false⟩) ?_
    clear H; intro _ b18 _ H
    refine RW.v ?_
    refine RW.nil ?_
    refine W.rg [(0, .pointer (some ⟨h, 0, none⟩)), (3, .pointer (some ⟨b16, 0, none⟩)), (4, .pointer (some ⟨b17, 0, none⟩)), (5, .pointer (some ⟨b18, 0, none⟩))] fun TA => ?_
    refine W.seq ?_
    refine W.seq (W.region ?_)
    refine RW.v ?_
    refine RW.ld H 2 1 ?_
    refine RW.v ?_
    refine RW.nil ?_
    refine W.rg [(0, .pointer (some ⟨h, 0, none⟩)), (3, .pointer (some ⟨b16, 0, none⟩)), (4, .pointer (some ⟨b17, 0, none⟩)), (5, .pointer (some ⟨b18, 0, none⟩)), (11, .bool false)] fun TA => ?_
    refine W.c0 ?_
    refine W.skip ?_
    refine W.seq (W.region ?_)
    refine RW.v ?_
    refine RW.ld H 2 2 ?_
    refine RW.call (by kernel_rfl) (by kernel_rfl) rfl rfl rfl (by kernel_rfl) (by kernel_rfl) ⟨_, _, (carY_call (G := G65) H.abs hfd), ?_⟩
    iterate 3 refine RW.v ?_
    refine RW.st H 1 [.int .i64 0, .int .i64 n] [.int .i64 0, .int .i64 n] ?_
    clear H; intro _ _ H; dsimp only [setL, delL] at H
    refine RW.v ?_
    refine RW.nil ?_
    refine W.rg [(0, .pointer (some ⟨h, 0, none⟩)), (3, .pointer (some ⟨b16, 0, none⟩)), (4, .pointer (some ⟨b17, 0, none⟩)), (5, .pointer (some ⟨b18, 0, none⟩)), (7, .int .i64 0)] fun TA => ?_
    refine W.seq (W.region ?_)
    refine RW.v ?_
    refine RW.ld H 2 2 ?_
    refine RW.call (by kernel_rfl) (by kernel_rfl) rfl rfl rfl (by kernel_rfl) (by kernel_rfl) ⟨_, _, (cdrY_call (G := G65) H.abs hfd), ?_⟩
    iterate 3 refine RW.v ?_
    refine RW.st H 0 [.int .i64 1, .int .i64 0] [.int .i64 1, .int .i64 0] ?_
    clear H; intro _ _ H; dsimp only [setL, delL] at H
    refine RW.v ?_
    refine RW.nil ?_
    replace H := (H.del 2)
    dsimp only [setL, delL] at H
    refine W.rg [(4, .pointer (some ⟨b17, 0, none⟩)), (5, .pointer (some ⟨b18, 0, none⟩)), (7, .int .i64 0), (8, .int .i64 0)] fun TA => ?_
    refine W.seq ?_
    refine W.drawn (by kernel_rfl) (by kernel_rfl) H.gn ?_
    have H19 := H
    refine RW.ld H19 1 2 ?_
    refine RW.ld H19 0 2 ?_
    iterate 3 refine RW.v ?_
    refine RW.val (by rfl) (by kernel_rfl) rfl (by kernel_rfl) ?_
    refine RW.val (by rfl) (by kernel_rfl) rfl (by kernel_rfl) ?_
    refine RW.v ?_
    refine RW.stD H19 1 (vs := [.int .i64 0, .int .i64 n]) (cs' := [.int .i64 0, .int .i64 n]) (by kernel_rfl) (by kernel_rfl) rfl rfl rfl rfl rfl (by kernel_rfl) (Nat.le_of_ble_eq_true rfl) rfl (by kernel_rfl) ?_
    intro _ H20
    dsimp only [setL, delL] at H20
    refine RW.stD H20 0 (vs := [.int .i64 1, .int .i64 0]) (cs' := [.int .i64 1, .int .i64 0]) (by kernel_rfl) (by kernel_rfl) rfl rfl rfl rfl rfl (by kernel_rfl) (Nat.le_of_ble_eq_true rfl) rfl (by kernel_rfl) ?_
    intro _ H21
    dsimp only [setL, delL] at H21
    refine RW.v ?_
    refine RW.nil ?_
    refine ⟨⟨by kernel_rfl, ⟨dyn_row (H19.get 1 rfl) (H21.get 1 rfl) ⟨fun h => Bool.noConfusion h, fun h => Bool.noConfusion h, fun h => Bool.noConfusion h, fun h => Bool.noConfusion h, fun h => Bool.noConfusion h, fun h => Bool.noConfusion h, fun h => Bool.noConfusion h, fun h => Bool.noConfusion h, fun _ => H19.get 1 rfl, fun _ => H20.get 1 rfl, fun h => Bool.noConfusion h, trivial⟩, dyn_row (H19.get 0 rfl) (H21.get 0 rfl) ⟨fun h => Bool.noConfusion h, fun h => Bool.noConfusion h, fun h => Bool.noConfusion h, fun h => Bool.noConfusion h, fun h => Bool.noConfusion h, fun h => Bool.noConfusion h, fun h => Bool.noConfusion h, fun h => Bool.noConfusion h, fun _ => H19.get 0 rfl, fun _ => H20.get 0 rfl, fun h => Bool.noConfusion h, trivial⟩, trivial, trivial, trivial, trivial, trivial, trivial, trivial, trivial, trivial, trivial⟩⟩, ?_⟩
    replace H := H21
    clear H19 H20 H21
    refine W.rg [(4, .pointer (some ⟨b17, 0, none⟩)), (5, .pointer (some ⟨b18, 0, none⟩)), (6, .bool true)] fun TA => ?_
    refine W.ret ?_
    refine endG (by rfl) (by exact resL_cell rfl (H.get 1 rfl) (by rw [uT_eq]; exact Tryz.underlying76) (by kernel_rfl) rfl rfl (by exact resL_cell rfl (H.get 0 rfl) (by rw [uT_eq]; exact Tryz.underlying76) (by kernel_rfl) rfl rfl (by exact resL_tmp rfl))) ?_
    iterate 4 refine RW.v ?_
    refine RW.mk H (.row ⟨[.int .i64 0, .int .i64 0], 76, false⟩) ?_
    clear H; intro _ b22 _ H
    refine RW.mk H (.row ⟨[.int .i64 0, .int .i64 0], 76, false⟩) ?_
    clear H; intro _ b23 _ H
    refine RW.st H 1 [.int .i64 0, .int .i64 n] [.int .i64 0, .int .i64 n] ?_
    clear H; intro _ _ H; dsimp only [setL, delL] at H
    refine RW.st H 0 [.int .i64 1, .int .i64 0] [.int .i64 1, .int .i64 0] ?_
    clear H; intro _ _ H; dsimp only [setL, delL] at H
    refine RW.v ?_
    refine RW.nil ?_
    replace H := (((H.del 3).del 2).del 0)
    dsimp only [setL, delL] at H
    refine W.rg [(1, .pointer (some ⟨T, 0, none⟩)), (5, .pointer (some ⟨b13, 0, none⟩)), (6, .pointer (some ⟨b14, 0, none⟩)), (7, .pointer (some ⟨b22, 0, none⟩)), (9, .bool true)] fun TA => ?_
    refine W.seq (W.region ?_)
    iterate 2 refine RW.v ?_
    refine RW.ldL H 0 2 (by rfl) (by kernel_rfl) rfl rfl rfl rfl rfl (by kernel_rfl) ?_
    refine RW.call (by rfl) (by kernel_rfl) rfl rfl rfl (by kernel_rfl) (by kernel_rfl) ?_
    refine WC.enter (fn := Tryz.f86) Tryz.func86 rfl ?_
    refine W.rg [(0, .agg #[.int .i64 0, .int .i64 n])] fun TA => ?_
    refine W.seq (W.region ?_)
    refine RW.mk H (.row ⟨[.int .i64 0, .int .i64 n], 76, false⟩) ?_
    clear H; intro _ b24 _ H
    refine RW.v ?_
    refine RW.nil ?_
    refine W.rg [(1, .pointer (some ⟨b24, 0, none⟩))] fun TA => ?_
    refine W.seq (W.region ?_)
    refine RW.v ?_
    refine RW.ld H 0 1 ?_
    iterate 2 refine RW.v ?_
    refine RW.val (by rfl) (by kernel_rfl) rfl (by kernel_rfl) ?_
    refine RW.ldL H 0 1 (by rfl) (by kernel_rfl) rfl rfl rfl rfl rfl (by kernel_rfl) ?_
    refine RW.valE (v' := .bool true) (by rfl) (by kernel_rfl) rfl (congrArg Value.bool (decide_eq_true (by omega))) (by kernel_rfl) ?_
    iterate 2 refine RW.v ?_
    refine RW.val (by rfl) (by kernel_rfl) rfl (by kernel_rfl) ?_
    refine RW.ldL H 0 1 (by rfl) (by kernel_rfl) rfl rfl rfl rfl rfl (by kernel_rfl) ?_
    refine RW.valE (v' := .bool true) (by rfl) (by kernel_rfl) rfl (congrArg Value.bool (decide_eq_true (by omega))) (by kernel_rfl) ?_
    iterate 2 refine RW.v ?_
    refine RW.nil ?_
    replace H := (H.del 0)
    dsimp only [setL, delL] at H
    refine W.rg [(2, .bool true)] fun TA => ?_
    refine W.ret ?_
    refine endG (by rfl) (by exact resL_tmp rfl) ?_
    refine RW.v ?_
    refine RW.nil ?_
    refine W.rg [(1, .pointer (some ⟨T, 0, none⟩)), (5, .pointer (some ⟨b13, 0, none⟩)), (6, .pointer (some ⟨b14, 0, none⟩)), (7, .pointer (some ⟨b22, 0, none⟩)), (35, .bool true)] fun TA => ?_
    refine W.c1 ?_
    refine W.seq (W.region ?_)
    refine RW.v ?_
    refine RW.ld H 0 1 ?_
    refine RW.val (v := .agg #[.int .i64 1, .int .i64 n, .bool false]) (by kernel_rfl) (by kernel_rfl) (by kernel_rfl) (by kernel_rfl) ?_
    refine RW.st H 1 [.int .i64 1, .int .i64 n, .bool false] [.int .i64 1, .int .i64 n, .bool false] ?_
    clear H; intro _ _ H; dsimp only [setL, delL] at H
    refine RW.nil ?_
    replace H := ((H.del 2).del 0)
    dsimp only [setL, delL] at H
    refine W.rg [(6, .pointer (some ⟨b14, 0, none⟩))] fun TA => ?_
    refine W.ret ?_
    refine seqQ_ret ?_
    refine endG (by rfl) (by exact resL_cell rfl (H.get 0 rfl) (by rw [uT_eq]; exact Tryz.underlying70) (by kernel_rfl) rfl rfl rfl) ?_
    exact ⟨rfl, u, (H.del 0)⟩
  · obtain rfl : n = 0 := by rcases hp with ⟨_, h, _⟩ | ⟨h, _⟩ | ⟨_, h, _⟩ | ⟨h, _⟩ <;> first | exact h | omega
    refine WC.enter (fn := Tryz.f38) Tryz.func38 rfl ?_
    refine W.rg [(0, .pointer (some ⟨h, 0, none⟩)), (1, .pointer (some ⟨T, 0, none⟩)), (2, .agg #[.int .i64 1, .int .i64 62])] fun TA => ?_
    refine W.seq (W.region ?_)
    refine RW.mk H (.row ⟨[.int .i64 1, .int .i64 62], 76, false⟩) ?_
    clear H; intro _ b25 _ H
    refine RW.mk H (.row ⟨[.int .i64 0, .int .i64 0, .bool false], 70, false⟩) ?_
    clear H; intro _ b26 _ H
    refine RW.nil ?_
    refine W.rg [(0, .pointer (some ⟨h, 0, none⟩)), (1, .pointer (some ⟨T, 0, none⟩)), (5, .pointer (some ⟨b25, 0, none⟩)), (6, .pointer (some ⟨b26, 0, none⟩))] fun TA => ?_
    refine W.seq ?_
    refine W.seq (W.region ?_)
    iterate 3 refine RW.v ?_
    refine RW.val (by rfl) (by kernel_rfl) rfl (by kernel_rfl) ?_
    refine RW.val (by rfl) (by kernel_rfl) rfl (by kernel_rfl) ?_
    refine RW.v ?_
    refine RW.nil ?_
    refine W.rg [(0, .pointer (some ⟨h, 0, none⟩)), (1, .pointer (some ⟨T, 0, none⟩)), (5, .pointer (some ⟨b25, 0, none⟩)), (6, .pointer (some ⟨b26, 0, none⟩)), (17, .bool false)] fun TA => ?_
    refine W.c0 ?_
    refine W.skip ?_
    refine W.seq ?_
    refine W.seq (W.region ?_)
    refine RW.ld H 1 2 ?_
    refine RW.cl ?_
    refine WC.enter (fn := Tryz.f86) Tryz.func86 rfl ?_
    refine W.rg [(0, .agg #[.int .i64 1, .int .i64 62])] fun TA => ?_
    refine W.seq (W.region ?_)
    refine RW.mk H (.row ⟨[.int .i64 1, .int .i64 62], 76, false⟩) ?_
    clear H; intro _ b27 _ H
    refine RW.v ?_
    refine RW.nil ?_
    refine W.rg [(1, .pointer (some ⟨b27, 0, none⟩))] fun TA => ?_
    refine W.seq (W.region ?_)
    refine RW.v ?_
    refine RW.ld H 0 1 ?_
    iterate 2 refine RW.v ?_
    refine RW.skip (by rfl) (by kernel_rfl) ?_
    refine RW.skip (by rfl) (by kernel_rfl) ?_
    refine RW.skip (by rfl) (by kernel_rfl) ?_
    iterate 2 refine RW.v ?_
    refine RW.skip (by rfl) (by kernel_rfl) ?_
    refine RW.skip (by rfl) (by kernel_rfl) ?_
    refine RW.skip (by rfl) (by kernel_rfl) ?_
    iterate 2 refine RW.v ?_
    refine RW.nil ?_
    replace H := (H.del 0)
    dsimp only [setL, delL] at H
    refine W.rg [(2, .bool false)] fun TA => ?_
    refine W.ret ?_
    refine endG (by rfl) (by exact resL_tmp rfl) ?_
    refine RW.nil ?_
    refine W.rg [(0, .pointer (some ⟨h, 0, none⟩)), (1, .pointer (some ⟨T, 0, none⟩)), (5, .pointer (some ⟨b25, 0, none⟩)), (6, .pointer (some ⟨b26, 0, none⟩)), (20, .bool false)] fun TA => ?_
    refine W.c0 ?_
    refine W.skip ?_
    refine W.seq ?_
    refine W.seq (W.region ?_)
    refine RW.v ?_
    refine RW.ld H 1 2 ?_
    refine RW.cl ?_
    refine WC.enter (fn := Tryz.f87) Tryz.func87 rfl ?_
    refine W.rg [(0, .pointer (some ⟨h, 0, none⟩)), (1, .agg #[.int .i64 1, .int .i64 62])] fun TA => ?_
    refine W.seq (W.region ?_)
    refine RW.mk H (.row ⟨[.int .i64 1, .int .i64 62], 76, false⟩) ?_
    clear H; intro _ b28 _ H
    refine RW.mk H (.row ⟨[.int .i64 0, .int .i64 0], 76, false⟩) ?_
    clear H; intro _ b29 _ H
    refine RW.mk H (.row ⟨[.int .i64 0, .int .i64 0], 76, false⟩) ?_
    clear H; intro _ b30 _ H
    refine RW.v ?_
    refine RW.nil ?_
    refine W.rg [(0, .pointer (some ⟨h, 0, none⟩)), (3, .pointer (some ⟨b28, 0, none⟩)), (4, .pointer (some ⟨b29, 0, none⟩)), (5, .pointer (some ⟨b30, 0, none⟩))] fun TA => ?_
    refine W.seq ?_
    refine W.seq (W.region ?_)
    refine RW.v ?_
    refine RW.ld H 2 1 ?_
    refine RW.v ?_
    refine RW.nil ?_
    refine W.rg [(0, .pointer (some ⟨h, 0, none⟩)), (3, .pointer (some ⟨b28, 0, none⟩)), (4, .pointer (some ⟨b29, 0, none⟩)), (5, .pointer (some ⟨b30, 0, none⟩)), (11, .bool true)] fun TA => ?_
    refine W.c1 ?_
    refine W.seq ?_
    refine W.drawn (by kernel_rfl) (by kernel_rfl) H.gn ?_
    have H31 := H
    refine RW.ld H31 1 2 ?_
    refine RW.ld H31 0 2 ?_
    refine RW.stD H31 1 (vs := [.int .i64 0, .int .i64 0]) (cs' := [.int .i64 0, .int .i64 0]) (by kernel_rfl) (by kernel_rfl) rfl rfl rfl rfl rfl (by kernel_rfl) (Nat.le_of_ble_eq_true rfl) rfl (by kernel_rfl) ?_
    intro _ H32
    dsimp only [setL, delL] at H32
    refine RW.stD H32 0 (vs := [.int .i64 0, .int .i64 0]) (cs' := [.int .i64 0, .int .i64 0]) (by kernel_rfl) (by kernel_rfl) rfl rfl rfl rfl rfl (by kernel_rfl) (Nat.le_of_ble_eq_true rfl) rfl (by kernel_rfl) ?_
    intro _ H33
    dsimp only [setL, delL] at H33
    refine RW.v ?_
    refine RW.nil ?_
    refine ⟨⟨by kernel_rfl, ⟨dyn_row (H31.get 1 rfl) (H33.get 1 rfl) ⟨fun h => Bool.noConfusion h, fun h => Bool.noConfusion h, fun _ => H31.get 1 rfl, fun _ => H32.get 1 rfl, fun h => Bool.noConfusion h, trivial⟩, dyn_row (H31.get 0 rfl) (H33.get 0 rfl) ⟨fun h => Bool.noConfusion h, fun h => Bool.noConfusion h, fun _ => H31.get 0 rfl, fun _ => H32.get 0 rfl, fun h => Bool.noConfusion h, trivial⟩, trivial, trivial, trivial, trivial⟩⟩, ?_⟩
    replace H := H33
    clear H31 H32 H33
    replace H := (H.del 2)
    dsimp only [setL, delL] at H
    refine W.rg [(4, .pointer (some ⟨b29, 0, none⟩)), (5, .pointer (some ⟨b30, 0, none⟩)), (6, .bool false)] fun TA => ?_
    refine W.ret ?_
    refine seqQ_ret ?_
    refine endG (by rfl) (by exact resL_cell rfl (H.get 1 rfl) (by rw [uT_eq]; exact Tryz.underlying76) (by kernel_rfl) rfl rfl (by exact resL_cell rfl (H.get 0 rfl) (by rw [uT_eq]; exact Tryz.underlying76) (by kernel_rfl) rfl rfl (by exact resL_tmp rfl))) ?_
    iterate 4 refine RW.v ?_
    refine RW.mk H (.row ⟨[.int .i64 0, .int .i64 0], 76, false⟩) ?_
    clear H; intro _ b34 _ H
    refine RW.mk H (.row ⟨[.int .i64 0, .int .i64 0], 76, false⟩) ?_
    clear H; intro _ b35 _ H
    refine RW.st H 1 [.int .i64 0, .int .i64 0] [.int .i64 0, .int .i64 0] ?_
    clear H; intro _ _ H; dsimp only [setL, delL] at H
    refine RW.st H 0 [.int .i64 0, .int .i64 0] [.int .i64 0, .int .i64 0] ?_
    clear H; intro _ _ H; dsimp only [setL, delL] at H
    refine RW.v ?_
    refine RW.nil ?_
    replace H := (((H.del 3).del 2).del 0)
    dsimp only [setL, delL] at H
    refine W.rg [(1, .pointer (some ⟨T, 0, none⟩)), (5, .pointer (some ⟨b25, 0, none⟩)), (6, .pointer (some ⟨b26, 0, none⟩)), (7, .pointer (some ⟨b34, 0, none⟩)), (9, .bool false)] fun TA => ?_
    refine W.seq (W.region ?_)
    iterate 2 refine RW.v ?_
    refine RW.skip (by rfl) (by kernel_rfl) ?_
    refine RW.skip (by rfl) (by kernel_rfl) ?_
    refine RW.v ?_
    refine RW.nil ?_
    refine W.rg [(1, .pointer (some ⟨T, 0, none⟩)), (5, .pointer (some ⟨b25, 0, none⟩)), (6, .pointer (some ⟨b26, 0, none⟩)), (7, .pointer (some ⟨b34, 0, none⟩)), (35, .bool false)] fun TA => ?_
    refine W.c0 ?_
    refine W.skip ?_
    refine W.seq ?_
    refine W.seq (W.region ?_)
    iterate 2 refine RW.v ?_
    refine RW.ld H 2 1 ?_
    replace H := H.rot (B := [.at_ b34 (.row ⟨[.int .i64 0, .int .i64 0], 76, false⟩), .at_ b26 (.row ⟨[.int .i64 0, .int .i64 0, .bool false], 70, false⟩), .at_ b25 (.row ⟨[.int .i64 1, .int .i64 62], 76, false⟩)]) (X := tabL T M u true) (L := L)
    refine RW.call (by kernel_rfl) (by kernel_rfl) rfl rfl rfl (by kernel_rfl) (by kernel_rfl) ((name62_wc H).mono ?_)
    clear H
    rintro _ _ ⟨rfl, u36, H⟩
    replace H : Lies G65 (heapAbs h m) F _ (.at_ b34 (.row ⟨[.int .i64 0, .int .i64 0], 76, false⟩) :: .at_ b26 (.row ⟨[.int .i64 0, .int .i64 0, .bool false], 70, false⟩) :: .at_ b25 (.row ⟨[.int .i64 1, .int .i64 62], 76, false⟩) :: (tabL T M u36 true ++ L)) := H.rot (B := tabL T M u36 true) (X := [.at_ b34 (.row ⟨[.int .i64 0, .int .i64 0], 76, false⟩), .at_ b26 (.row ⟨[.int .i64 0, .int .i64 0, .bool false], 70, false⟩), .at_ b25 (.row ⟨[.int .i64 1, .int .i64 62], 76, false⟩)]) (L := L)
    iterate 5 refine RW.v ?_
    refine RW.nil ?_
    replace H := (H.del 0)
    dsimp only [setL, delL] at H
    refine W.rg [(1, .pointer (some ⟨T, 0, none⟩)), (5, .pointer (some ⟨b25, 0, none⟩)), (6, .pointer (some ⟨b26, 0, none⟩)), (10, .string ⟨#[45]⟩), (11, .bool true)] fun TA => ?_
    refine W.seq (W.region ?_)
    refine RW.v ?_
    refine RW.ld H 1 1 ?_
    iterate 2 refine RW.v ?_
    refine RW.val (by rfl) (by kernel_rfl) rfl (by kernel_rfl) ?_
    iterate 2 refine RW.v ?_
    refine RW.val (by rfl) (by kernel_rfl) rfl (by kernel_rfl) ?_
    refine RW.valE (v' := .bool true) (by rfl) (by kernel_rfl) rfl (by kernel_rfl) (by kernel_rfl) ?_
    iterate 2 refine RW.v ?_
    refine RW.val (by rfl) (by kernel_rfl) rfl (by kernel_rfl) ?_
    refine RW.val (by rfl) (by kernel_rfl) rfl (by kernel_rfl) ?_
    refine RW.ldL H 1 1 (by rfl) (by kernel_rfl) rfl rfl rfl rfl rfl (by kernel_rfl) ?_
    replace H := H.rot (B := [.at_ b26 (.row ⟨[.int .i64 0, .int .i64 0, .bool false], 70, false⟩), .at_ b25 (.row ⟨[.int .i64 1, .int .i64 62], 76, false⟩)]) (X := tabL T M u36 true) (L := L)
    refine RW.call (by rfl) (by kernel_rfl) rfl rfl rfl (by kernel_rfl) (by kernel_rfl) ((inter62_wc H).mono ?_)
    clear H
    rintro _ _ ⟨rfl, u37, H⟩
    replace H : Lies G65 (heapAbs h m) F _ (.at_ b26 (.row ⟨[.int .i64 0, .int .i64 0, .bool false], 70, false⟩) :: .at_ b25 (.row ⟨[.int .i64 1, .int .i64 62], 76, false⟩) :: (tabL T M u37 true ++ L)) := H.rot (B := tabL T M u37 true) (X := [.at_ b26 (.row ⟨[.int .i64 0, .int .i64 0, .bool false], 70, false⟩), .at_ b25 (.row ⟨[.int .i64 1, .int .i64 62], 76, false⟩)]) (L := L)
    refine RW.v ?_
    refine RW.nil ?_
    replace H := (H.del 1)
    dsimp only [setL, delL] at H
    refine W.rg [(6, .pointer (some ⟨b26, 0, none⟩)), (61, .bool true)] fun TA => ?_
    refine W.c1 ?_
    refine W.seq (W.region ?_)
    refine RW.val (v := .agg #[.int .i64 2, .int .i64 0, .bool false]) (by kernel_rfl) (by kernel_rfl) (by kernel_rfl) (by kernel_rfl) ?_
    refine RW.st H 0 [.int .i64 2, .int .i64 0, .bool false] [.int .i64 2, .int .i64 0, .bool false] ?_
    clear H; intro _ _ H; dsimp only [setL, delL] at H
    refine RW.nil ?_
    refine W.rg [(6, .pointer (some ⟨b26, 0, none⟩))] fun TA => ?_
    refine W.ret ?_
    refine seqQ_ret ?_
    refine endG (by rfl) (by exact resL_cell rfl (H.get 0 rfl) (by rw [uT_eq]; exact Tryz.underlying70) (by kernel_rfl) rfl rfl rfl) ?_
    exact ⟨rfl, u37, (H.del 0)⟩
  · obtain ⟨h1, h2⟩ : -2305843009213693952 ≤ n ∧ n ≤ 2305843009213693951 := by rcases hp with ⟨h, _⟩ | ⟨_, h1, h2, _⟩ | ⟨h, _⟩ | ⟨_, h1, h2⟩ <;> first | exact ⟨h1, h2⟩ | omega
    refine WC.enter (fn := Tryz.f38) Tryz.func38 rfl ?_
    refine W.rg [(0, .pointer (some ⟨h, 0, none⟩)), (1, .pointer (some ⟨T, 0, none⟩)), (2, .agg #[.int .i64 0, .int .i64 n])] fun TA => ?_
    refine W.seq (W.region ?_)
    refine RW.mk H (.row ⟨[.int .i64 0, .int .i64 n], 76, false⟩) ?_
    clear H; intro _ b38 _ H
    refine RW.mk H (.row ⟨[.int .i64 0, .int .i64 0, .bool false], 70, false⟩) ?_
    clear H; intro _ b39 _ H
    refine RW.nil ?_
    refine W.rg [(0, .pointer (some ⟨h, 0, none⟩)), (1, .pointer (some ⟨T, 0, none⟩)), (5, .pointer (some ⟨b38, 0, none⟩)), (6, .pointer (some ⟨b39, 0, none⟩))] fun TA => ?_
    refine W.seq ?_
    refine W.seq (W.region ?_)
    iterate 3 refine RW.v ?_
    refine RW.val (by rfl) (by kernel_rfl) rfl (by kernel_rfl) ?_
    refine RW.val (by rfl) (by kernel_rfl) rfl (by kernel_rfl) ?_
    refine RW.v ?_
    refine RW.nil ?_
    refine W.rg [(0, .pointer (some ⟨h, 0, none⟩)), (1, .pointer (some ⟨T, 0, none⟩)), (5, .pointer (some ⟨b38, 0, none⟩)), (6, .pointer (some ⟨b39, 0, none⟩)), (17, .bool false)] fun TA => ?_
    refine W.c0 ?_
    refine W.skip ?_
    refine W.seq ?_
    refine W.seq (W.region ?_)
    refine RW.ld H 1 2 ?_
    refine RW.cl ?_
    refine WC.enter (fn := Tryz.f86) Tryz.func86 rfl ?_
    refine W.rg [(0, .agg #[.int .i64 0, .int .i64 n])] fun TA => ?_
    refine W.seq (W.region ?_)
    refine RW.mk H (.row ⟨[.int .i64 0, .int .i64 n], 76, false⟩) ?_
    clear H; intro _ b40 _ H
    refine RW.v ?_
    refine RW.nil ?_
    refine W.rg [(1, .pointer (some ⟨b40, 0, none⟩))] fun TA => ?_
    refine W.seq (W.region ?_)
    refine RW.v ?_
    refine RW.ld H 0 1 ?_
    iterate 2 refine RW.v ?_
    refine RW.val (by rfl) (by kernel_rfl) rfl (by kernel_rfl) ?_
    refine RW.ldL H 0 1 (by rfl) (by kernel_rfl) rfl rfl rfl rfl rfl (by kernel_rfl) ?_
    refine RW.valE (v' := .bool true) (by rfl) (by kernel_rfl) rfl (congrArg Value.bool (decide_eq_true (by omega))) (by kernel_rfl) ?_
    iterate 2 refine RW.v ?_
    refine RW.val (by rfl) (by kernel_rfl) rfl (by kernel_rfl) ?_
    refine RW.ldL H 0 1 (by rfl) (by kernel_rfl) rfl rfl rfl rfl rfl (by kernel_rfl) ?_
    refine RW.valE (v' := .bool true) (by rfl) (by kernel_rfl) rfl (congrArg Value.bool (decide_eq_true (by omega))) (by kernel_rfl) ?_
    iterate 2 refine RW.v ?_
    refine RW.nil ?_
    replace H := (H.del 0)
    dsimp only [setL, delL] at H
    refine W.rg [(2, .bool true)] fun TA => ?_
    refine W.ret ?_
    refine endG (by rfl) (by exact resL_tmp rfl) ?_
    refine RW.nil ?_
    refine W.rg [(0, .pointer (some ⟨h, 0, none⟩)), (1, .pointer (some ⟨T, 0, none⟩)), (5, .pointer (some ⟨b38, 0, none⟩)), (6, .pointer (some ⟨b39, 0, none⟩)), (20, .bool true)] fun TA => ?_
    refine W.c1 ?_
    refine W.seq (W.region ?_)
    refine RW.v ?_
    refine RW.ld H 1 1 ?_
    refine RW.val (v := .agg #[.int .i64 3, .int .i64 n, .bool false]) (by kernel_rfl) (by kernel_rfl) (by kernel_rfl) (by kernel_rfl) ?_
    refine RW.st H 0 [.int .i64 3, .int .i64 n, .bool false] [.int .i64 3, .int .i64 n, .bool false] ?_
    clear H; intro _ _ H; dsimp only [setL, delL] at H
    refine RW.nil ?_
    replace H := (H.del 1)
    dsimp only [setL, delL] at H
    refine W.rg [(6, .pointer (some ⟨b39, 0, none⟩))] fun TA => ?_
    refine W.ret ?_
    refine seqQ_ret ?_
    refine endG (by rfl) (by exact resL_cell rfl (H.get 0 rfl) (by rw [uT_eq]; exact Tryz.underlying70) (by kernel_rfl) rfl rfl rfl) ?_
    exact ⟨rfl, u, (H.del 0)⟩
end
end Go.Proofs.YthemeeiedlbhkaaGreatDoor
