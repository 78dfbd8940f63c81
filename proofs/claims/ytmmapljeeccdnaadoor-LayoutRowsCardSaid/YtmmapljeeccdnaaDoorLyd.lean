/-
 Rows: the walk. Conditions: the tables of unicode/utf8 lie.
-/
import Derived.Test.YtmmapljeeccdnaaDoorL1
import Derived.Test.YtmmapljeeccdnaaDoorS4
import Derived.Test.YtmmapljeeccdnaaDoorCld
namespace Go.Proofs.YtmmapljeeccdnaaDoor
set_option maxRecDepth 100000
open Go.Lib
theorem GRow.one {G : Nat} {σ : Mem} {e : TypeId} {s n : Nat} {v : Value} {xs : List Value} (g : GRow G σ e s v n xs) : v.cells.toList = [v] := by cases g <;> rfl
theorem rem_fastZ {a b : Int} (h : b ≠ 0) : fastBin .rem .i64 a b = some (.int .i64 (Int.tmod a b)) := if_neg h
theorem rep_step {α : Type} {j n : Nat} {x : α} {l : List α} (h : j < n) : List.replicate (n - j) x ++ l = x :: (List.replicate (n - (j + 1)) x ++ l) := by
 rw [show n - j = (n - (j + 1)) + 1 by omega, List.replicate_succ]
 rfl
theorem get_mem {α : Type} [Inhabited α] {l : List α} {i : Nat} (h : i < l.length) : l.getD i default ∈ l := by
 rw [List.getD_eq_getElem?_getD, List.getElem?_eq_getElem h]
 exact List.getElem_mem _
theorem putF_no {wd : Nat} {s : Fil} {X : List Cel} {pos : Int} (h : (putF wd s X pos).2 = false) : (putF wd s X pos).1 = s := by
 unfold putF at h ⊢
 split
 ·rfl
 ·rename_i k
  rw [if_neg k] at h
  cases h
theorem checkL_bounds {fr to_ : Int} : ∀ {l : List Prt} {at_ : Int}, checkL fr to_ at_ l = 0 → ∀ x ∈ l, fr ≤ x.p ∧ x.p ≤ x.t ∧ x.t ≤ to_ ∧ validD x.s = true
 | [], _, _, x, h => by simp at h
 | y :: l, at_, h, x, hx => by
  have h : (if checkP y fr to_ at_ = 0 then checkL fr to_ y.t l else checkP y fr to_ at_) = 0 := h
  by_cases h0 : checkP y fr to_ at_ = 0
  ·rw [if_pos h0] at h
   rcases List.mem_cons.1 hx with rfl | hx
   ·clear h
    unfold checkP at h0
    (repeat' split at h0) <;> first | exact ⟨by omega, by omega, by omega, by simp_all⟩ | omega
   ·exact checkL_bounds h x hx
  ·rw [if_neg h0] at h
   exact absurd h h0
theorem check_all {l : List Prt} {fr to_ : Int} (h : checkM l fr to_ = 0) : 1 ≤ fr ∧ fr ≤ to_ ∧ to_ ≤ 65537 ∧ ∀ x ∈ l, fr ≤ x.p ∧ x.p ≤ x.t ∧ x.t ≤ to_ ∧ validD x.s = true := by
 unfold checkM at h
 split at h
 ·omega
 ·exact ⟨by omega, by omega, by omega, checkL_bounds h⟩
theorem check_bounds {l : List Prt} {fr to_ : Int} (h : checkM l fr to_ = 0) (x : Prt) (hx : x ∈ l) : 1 ≤ x.p ∧ x.p ≤ 65537 := by
 obtain ⟨h1, h2, h3, h4⟩ := check_all h
 have := h4 x hx
 omega
theorem charsP_len (q : Prt) : ∀ (p : Int) (l : List Int), (charsP q p l).length = l.length
 | _, [] => rfl
 | p, c :: l => congrArg (· + 1) (charsP_len q _ l)
theorem charsM_len : ∀ {l : List Prt}, (∀ x ∈ l, x.s.length ≤ 1000) → (charsM l).length ≤ l.length * 1000
 | [], _ => Nat.zero_le _
 | x :: l, h => by
  show (charsP x x.p (runes x.s) ++ charsM l).length ≤ (l.length + 1) * 1000
  rw [List.length_append, charsP_len]
  have h1 := Nat.le_trans (runes_le x.s) (h x (by simp))
  have h2 := charsM_len (l := l) fun y hy => h y (by simp [hy])
  omega
section
variable {tab col : Nat} {c ps : Int} {q : Prt} {rest : List (Int × Int × Prt)}
theorem u_feed (h : c = 10) : unitsM tab col ((c, ps, q) :: rest) = List.replicate 1 ⟨[], ps, true⟩ ++ unitsM tab (0 + 1 * ([] : List Cel).length) rest := by
 subst h
 rfl
theorem u_tab (h : c = 9) : unitsM tab col ((c, ps, q) :: rest) = List.replicate (tab - col % tab) ⟨[⟨32, q.b, q.c, q.d, q.e, q.f⟩], ps, false⟩ ++ unitsM tab (col + (tab - col % tab) * ([⟨32, q.b, q.c, q.d, q.e, q.f⟩] : List Cel).length) rest := by
 subst h
 rfl
theorem u_none (h : c ≠ 10) (h9 : c ≠ 9) (h0 : cellsM c q = []) : unitsM tab col ((c, ps, q) :: rest) = List.replicate 0 ⟨[], ps, false⟩ ++ unitsM tab (col + 0 * ([] : List Cel).length) rest := by
 show List.replicate (unitN tab col c q) (⟨unitX c q, ps, decide (c = 10)⟩ : Un) ++ unitsM tab (colN tab col c q) rest = _
 unfold colN unitN unitX
 rw [if_neg h, if_neg h9, if_pos h0, if_neg h, if_neg h, if_neg h9, h0, decide_eq_false h]
theorem u_some (h : c ≠ 10) (h9 : c ≠ 9) (h0 : cellsM c q ≠ []) : unitsM tab col ((c, ps, q) :: rest) = List.replicate 1 ⟨cellsM c q, ps, false⟩ ++ unitsM tab (col + 1 * (cellsM c q).length) rest := by
 show List.replicate (unitN tab col c q) (⟨unitX c q, ps, decide (c = 10)⟩ : Un) ++ unitsM tab (colN tab col c q) rest = _
 unfold colN unitN unitX
 rw [if_neg h, if_neg h9, if_neg h0, if_neg h, if_neg h, if_neg h9, decide_eq_false h]
end
section
variable {G : Nat} {A : Abs} {σ : Mem} {F : Nat → Option Blk2} {L : List Ent}
set_option maxHeartbeats 64000000 in
theorem Rows_go {l : List Prt} {v1 : Value} {fr to_ : Int} {wd tab most : Nat} {wrap : Bool} {T : LS} (h4 : 4 ≤ wd) (h5 : wd ≤ 1000) (ht : 1 ≤ tab) (ht2 : tab ≤ 64) (hm : most ≤ 10000) (hU : U8F F) (h16 : 16 ≤ G) (h1 : SlF F 9 v1 l.length (pC l)) (hl : l.length ≤ 1000) (hsm : ∀ x ∈ l, x.s.length ≤ 1000) (hck : checkM l fr to_ = 0) (hT : T = allS to_ wd wrap most (unitsM tab 0 (charsM l))) (H : Lies G A F σ L) :
  WC G Tryd.prog 13 #[v1, .int .i64 fr, .int .i64 to_, .int .i64 ((wd : Nat) : Int), .int .i64 ((tab : Nat) : Int), .bool wrap, .int .i64 ((most : Nat) : Int)] σ fun v σ' => ∃ F' u B, Le F F' ∧ v = .tuple #[u, .int .i64 0] ∧ B.length = T.R.length ∧ Lies G A F' σ' (.sl 39 5 u T.R.length (rowsV (csB wd B) (psB wd B) (tosX T.R T.x)) :: (REs B T.R ++ L)) := by
 obtain ⟨F0, hF⟩ : ∃ F0, F0 = F := ⟨_, rfl⟩
 have le0 : Le F0 F := fun b y h => hF ▸ h
 rw [← hF] at h1 ⊢
 refine WC.enterD (fn := Tryd.f13) Tryd.func13 rfl ?_
 refine W.rg [(0, v1), (1, .int .i64 fr), (2, .int .i64 to_), (3, .int .i64 ((wd : Nat) : Int)), (4, .int .i64 ((tab : Nat) : Int)), (5, .bool wrap), (6, .int .i64 ((most : Nat) : Int))] fun TA => ?_
 refine W.seq (W.region ?_)
 refine RW.mk H (.row ⟨[.int .i64 to_], 3, false⟩) ?_
 clear H; intro _ b1 _ H
 refine RW.mk H (.row ⟨[.int .i64 ((most : Nat) : Int)], 3, false⟩) ?_
 clear H; intro _ b2 _ H
 iterate 2 refine RW.v ?_
 refine RW.nil ?_
 refine W.rg [(0, v1), (1, .int .i64 fr), (3, .int .i64 ((wd : Nat) : Int)), (4, .int .i64 ((tab : Nat) : Int)), (5, .bool wrap), (9, .pointer (some ⟨b1, 0, none⟩)), (13, .pointer (some ⟨b2, 0, none⟩))] fun TA => ?_
 refine W.scope ?_
 refine W.seq ?_
 refine W.seq (W.region ?_)
 iterate 2 refine RW.v ?_
 refine RW.ld H 1 1 ?_
 refine RW.cl ?_
 refine ((Check_wc (l := l) (fr := fr) (to_ := to_) hU h16 (h1.le le0) (by omega) (fun x hx => Nat.le_trans (hsm x hx) (by decide)) H).mono ?_)
 clear H
 rw [hck]
 rintro _ _ ⟨rfl, H⟩
 refine RW.v ?_
 refine RW.nil ?_
 refine W.rg [(0, v1), (3, .int .i64 ((wd : Nat) : Int)), (4, .int .i64 ((tab : Nat) : Int)), (5, .bool wrap), (9, .pointer (some ⟨b1, 0, none⟩)), (13, .pointer (some ⟨b2, 0, none⟩)), (16, .int .i64 0)] fun TA => ?_
 refine W.seq (W.region ?_)
 iterate 2 refine RW.v ?_
 refine RW.nil ?_
 refine W.c0 ?_
 refine W.skip ?_
 refine W.seq ?_
 refine W.seq (W.region ?_)
 refine RW.v ?_
 refine RW.valE (v' := .bool false) (by kernel_rfl) (by kernel_rfl) rfl (congrArg Value.bool (decide_eq_false (by omega))) (by kernel_rfl) ?_
 refine RW.v ?_
 refine RW.w ?_
 refine RW.valE (v' := .bool false) (by rfl) (by kernel_rfl) rfl (congrArg Value.bool (decide_eq_false (by omega))) (by kernel_rfl) ?_
 iterate 2 refine RW.v ?_
 refine RW.w ?_
 refine RW.valE (v' := .bool false) (by rfl) (by kernel_rfl) rfl (congrArg Value.bool (decide_eq_false (by omega))) (by kernel_rfl) ?_
 iterate 2 refine RW.v ?_
 refine RW.w ?_
 refine RW.valE (v' := .bool false) (by rfl) (by kernel_rfl) rfl (congrArg Value.bool (decide_eq_false (by omega))) (by kernel_rfl) ?_
 iterate 2 refine RW.v ?_
 refine RW.ldL H 0 1 (by rfl) (by kernel_rfl) rfl rfl rfl rfl rfl (by kernel_rfl) ?_
 refine RW.valE (v' := .bool false) (by rfl) (by kernel_rfl) rfl (congrArg Value.bool (decide_eq_false (by omega))) (by kernel_rfl) ?_
 iterate 2 refine RW.v ?_
 refine RW.ldL H 0 1 (by rfl) (by kernel_rfl) rfl rfl rfl rfl rfl (by kernel_rfl) ?_
 refine RW.valE (v' := .bool false) (by rfl) (by kernel_rfl) rfl (congrArg Value.bool (decide_eq_false (by omega))) (by kernel_rfl) ?_
 refine RW.v ?_
 refine RW.nil ?_
 refine W.c0 ?_
 refine W.skip ?_
 refine W.seq (W.region ?_)
 refine RW.mk H (.row ⟨[.slice none 0 0], 27, false⟩) ?_
 clear H; intro _ b3 _ H
 refine RW.nil ?_
 refine W.rg [(0, v1), (3, .int .i64 ((wd : Nat) : Int)), (4, .int .i64 ((tab : Nat) : Int)), (5, .bool wrap), (9, .pointer (some ⟨b1, 0, none⟩)), (13, .pointer (some ⟨b2, 0, none⟩)), (17, .pointer (some ⟨b3, 0, none⟩))] fun TA => ?_
 refine W.seq ?_
 refine W.label _ ?_
 refine W.seq ?_
 refine W.seq (W.region ?_)
 refine RW.v ?_
 refine RW.ld H 2 1 ?_
 iterate 3 refine RW.v ?_
 refine RW.cl ?_
 refine WC.enter (fn := Tryd.f36) Tryd.func36 rfl ?_
 refine W.rg [(0, v1), (1, .int .i64 to_), (2, .int .i64 ((wd : Nat) : Int)), (3, .int .i64 ((tab : Nat) : Int)), (4, .bool wrap)] fun TA => ?_
 refine W.seq (W.region ?_)
 refine RW.mk H (.row ⟨(v1).cells.toList, 22, false⟩) ?_
 clear H; intro _ b4 _ H
 rw [(slf_one (h1.le le0))] at H
 refine RW.mk H (.row ⟨[.int .i64 to_], 3, false⟩) ?_
 clear H; intro _ b5 _ H
 refine RW.mk H (.row ⟨[.int .i64 ((wd : Nat) : Int)], 3, false⟩) ?_
 clear H; intro _ b6 _ H
 refine RW.mk H (.row ⟨[.int .i64 ((tab : Nat) : Int)], 3, false⟩) ?_
 clear H; intro _ b7 _ H
 refine RW.mk H (.row ⟨[.bool wrap], 4, false⟩) ?_
 clear H; intro _ b8 _ H
 refine RW.v ?_
 refine RW.nil ?_
 refine W.rg [(5, .pointer (some ⟨b4, 0, none⟩)), (6, .pointer (some ⟨b5, 0, none⟩)), (7, .pointer (some ⟨b6, 0, none⟩)), (8, .pointer (some ⟨b7, 0, none⟩)), (9, .pointer (some ⟨b8, 0, none⟩))] fun TA => ?_
 refine W.seq (W.region ?_)
 refine RW.val (v := .func (.func 50) #[] #[.pointer (some ⟨b6, 0, none⟩), .pointer (some ⟨b4, 0, none⟩), .pointer (some ⟨b7, 0, none⟩), .pointer (some ⟨b8, 0, none⟩), .pointer (some ⟨b5, 0, none⟩)]) (by kernel_rfl) (by kernel_rfl) (by kernel_rfl) (by kernel_rfl) ?_
 refine RW.v ?_
 refine RW.nil ?_
 refine W.ret ?_
 refine endG (by rfl) (by exact resL_tmp rfl) ?_
 refine RW.nil ?_
 refine W.rg [(9, .pointer (some ⟨b1, 0, none⟩)), (13, .pointer (some ⟨b2, 0, none⟩)), (17, .pointer (some ⟨b3, 0, none⟩)), (54, .func (.func 50) #[] #[.pointer (some ⟨b6, 0, none⟩), .pointer (some ⟨b4, 0, none⟩), .pointer (some ⟨b7, 0, none⟩), .pointer (some ⟨b8, 0, none⟩), .pointer (some ⟨b5, 0, none⟩)])] fun TA => ?_
 refine W.block ?_
 refine W.rst [(9, .pointer (some ⟨b1, 0, none⟩)), (13, .pointer (some ⟨b2, 0, none⟩)), (17, .pointer (some ⟨b3, 0, none⟩)), (54, .func (.func 50) #[] #[.pointer (some ⟨b6, 0, none⟩), .pointer (some ⟨b4, 0, none⟩), .pointer (some ⟨b7, 0, none⟩), .pointer (some ⟨b8, 0, none⟩), .pointer (some ⟨b5, 0, none⟩)])] ⟨rfl, rfl, rfl, rfl, trivial⟩ fun TL13 => ?_
 refine W.rangeL H rfl (fun _ h => nomatch h) (fun _ h => nomatch h) (by kernel_rfl) fun _ d9 b10 lp11 hl12 H => ?_
 refine WC.enterD (fn := Tryd.f50) Tryd.func50 rfl ?_
 refine W.rg [(0, .func (.yield b10) #[] #[]), (1, .pointer (some ⟨b6, 0, none⟩)), (2, .pointer (some ⟨b4, 0, none⟩)), (3, .pointer (some ⟨b7, 0, none⟩)), (4, .pointer (some ⟨b8, 0, none⟩)), (5, .pointer (some ⟨b5, 0, none⟩))] fun TA => ?_
 refine W.seq (W.region ?_)
 refine RW.mk H (.row ⟨[.func (.yield b10) #[] #[]], 89, false⟩) ?_
 clear H; intro _ b14 _ H
 refine RW.nil ?_
 refine W.rg [(1, .pointer (some ⟨b6, 0, none⟩)), (2, .pointer (some ⟨b4, 0, none⟩)), (3, .pointer (some ⟨b7, 0, none⟩)), (4, .pointer (some ⟨b8, 0, none⟩)), (5, .pointer (some ⟨b5, 0, none⟩)), (6, .pointer (some ⟨b14, 0, none⟩))] fun TA => ?_
 refine W.seq (W.region ?_)
 refine RW.ld H 5 1 ?_
 refine RW.cl ?_
 refine ((fill_wc (wd := wd) (by omega) (by omega) H).mono ?_)
 clear H
 rintro _ _ ⟨q15, bc16, bp17, rfl, H⟩
 replace H : Lies G A F _ (.at_ q15 (.row ⟨[.slice (some ⟨bc16, 0, none⟩) wd wd, .slice (some ⟨bp17, 0, none⟩) wd wd, .int .i64 ((fil0 wd).fr), .int .i64 0, .bool ((fil0 wd).co), .int .i64 (((fil0 wd).n : Nat) : Int)], 99, false⟩) :: .at_ bc16 (.row ⟨cC (fil0 wd).C, 79, false⟩) :: .at_ bp17 (.row ⟨(fil0 wd).P.map (Value.int .i64), 3, false⟩) :: .at_ b14 (.row ⟨[.func (.yield b10) #[] #[]], 89, false⟩) :: .at_ b10 lp11 :: .at_ d9 (.defs true) :: .at_ b8 (.row ⟨[.bool wrap], 4, false⟩) :: .at_ b7 (.row ⟨[.int .i64 ((tab : Nat) : Int)], 3, false⟩) :: .at_ b6 (.row ⟨[.int .i64 ((wd : Nat) : Int)], 3, false⟩) :: .at_ b5 (.row ⟨[.int .i64 to_], 3, false⟩) :: .at_ b4 (.row ⟨[v1], 22, false⟩) :: .at_ b3 (.row ⟨[.slice none 0 0], 27, false⟩) :: .at_ b2 (.row ⟨[.int .i64 ((most : Nat) : Int)], 3, false⟩) :: .at_ b1 (.row ⟨[.int .i64 to_], 3, false⟩) :: (L)) := H
 refine RW.mk H (.row ⟨[.pointer none], 90, false⟩) ?_
 clear H; intro _ b18 _ H
 refine RW.mk H (.row ⟨[.bool false], 4, false⟩) ?_
 clear H; intro _ b19 _ H
 refine RW.st H 1 [pt q15] [pt q15] ?_
 clear H; intro _ _ H; dsimp only [setL, delL] at H
 refine RW.st H 0 [.bool false] [.bool false] ?_
 clear H; intro _ _ H; dsimp only [setL, delL] at H
 refine RW.nil ?_
 refine W.rg [(1, .pointer (some ⟨b6, 0, none⟩)), (2, .pointer (some ⟨b4, 0, none⟩)), (3, .pointer (some ⟨b7, 0, none⟩)), (4, .pointer (some ⟨b8, 0, none⟩)), (5, .pointer (some ⟨b5, 0, none⟩)), (6, .pointer (some ⟨b14, 0, none⟩)), (7, .pointer (some ⟨b18, 0, none⟩)), (8, .pointer (some ⟨b19, 0, none⟩))] fun TA => ?_
 refine W.seq ?_
 refine W.seq (W.region ?_)
 refine RW.ld H 12 1 ?_
 refine RW.ld H 9 1 ?_
 refine RW.cl ?_
 refine WC.enter (fn := Tryd.f52) Tryd.func52 rfl ?_
 refine W.rg [(0, v1), (1, .int .i64 ((tab : Nat) : Int))] fun TA => ?_
 refine W.seq (W.region ?_)
 refine RW.mk H (.row ⟨(v1).cells.toList, 22, false⟩) ?_
 clear H; intro _ b20 _ H
 rw [(slf_one (h1.le le0))] at H
 refine RW.mk H (.row ⟨[.int .i64 ((tab : Nat) : Int)], 3, false⟩) ?_
 clear H; intro _ b21 _ H
 refine RW.v ?_
 refine RW.nil ?_
 refine W.rg [(2, .pointer (some ⟨b20, 0, none⟩)), (3, .pointer (some ⟨b21, 0, none⟩))] fun TA => ?_
 refine W.seq (W.region ?_)
 refine RW.val (v := .func (.func 65) #[] #[.pointer (some ⟨b20, 0, none⟩), .pointer (some ⟨b21, 0, none⟩)]) (by kernel_rfl) (by kernel_rfl) (by kernel_rfl) (by kernel_rfl) ?_
 refine RW.v ?_
 refine RW.nil ?_
 refine W.ret ?_
 refine endG (by rfl) (by exact resL_tmp rfl) ?_
 refine RW.nil ?_
 refine W.rg [(1, .pointer (some ⟨b6, 0, none⟩)), (4, .pointer (some ⟨b8, 0, none⟩)), (5, .pointer (some ⟨b5, 0, none⟩)), (6, .pointer (some ⟨b14, 0, none⟩)), (7, .pointer (some ⟨b18, 0, none⟩)), (8, .pointer (some ⟨b19, 0, none⟩)), (14, .func (.func 65) #[] #[.pointer (some ⟨b20, 0, none⟩), .pointer (some ⟨b21, 0, none⟩)])] fun TA => ?_
 refine W.block ?_
 refine W.rst [(1, .pointer (some ⟨b6, 0, none⟩)), (4, .pointer (some ⟨b8, 0, none⟩)), (5, .pointer (some ⟨b5, 0, none⟩)), (6, .pointer (some ⟨b14, 0, none⟩)), (7, .pointer (some ⟨b18, 0, none⟩)), (8, .pointer (some ⟨b19, 0, none⟩)), (14, .func (.func 65) #[] #[.pointer (some ⟨b20, 0, none⟩), .pointer (some ⟨b21, 0, none⟩)])] ⟨rfl, rfl, rfl, rfl, rfl, rfl, rfl, trivial⟩ fun TL26 => ?_
 refine W.rangeL H rfl (fun _ h => nomatch h) (fun _ h => nomatch h) (by kernel_rfl) fun _ d22 b23 lp24 hl25 H => ?_
 refine WC.enterD (fn := Tryd.f65) Tryd.func65 rfl ?_
 refine W.rg [(0, .func (.yield b23) #[] #[]), (1, .pointer (some ⟨b20, 0, none⟩)), (2, .pointer (some ⟨b21, 0, none⟩))] fun TA => ?_
 refine W.seq (W.region ?_)
 refine RW.mk H (.row ⟨[.func (.yield b23) #[] #[]], 100, false⟩) ?_
 clear H; intro _ b27 _ H
 refine RW.nil ?_
 refine W.rg [(1, .pointer (some ⟨b20, 0, none⟩)), (2, .pointer (some ⟨b21, 0, none⟩)), (3, .pointer (some ⟨b27, 0, none⟩))] fun TA => ?_
 refine W.seq (W.region ?_)
 refine RW.mk H (.row ⟨[.int .i64 0], 3, false⟩) ?_
 clear H; intro _ b28 _ H
 refine RW.st H 0 [.int .i64 0] [.int .i64 0] ?_
 clear H; intro _ _ H; dsimp only [setL, delL] at H
 refine RW.nil ?_
 refine W.rg [(1, .pointer (some ⟨b20, 0, none⟩)), (2, .pointer (some ⟨b21, 0, none⟩)), (3, .pointer (some ⟨b27, 0, none⟩)), (4, .pointer (some ⟨b28, 0, none⟩))] fun TA => ?_
 refine W.seq (W.region ?_)
 refine RW.ld H 5 1 ?_
 refine RW.cl ?_
 refine WC.enter (fn := Tryd.f66) Tryd.func66 rfl ?_
 refine W.rg [(0, v1)] fun TA => ?_
 refine W.seq (W.region ?_)
 refine RW.mk H (.row ⟨(v1).cells.toList, 22, false⟩) ?_
 clear H; intro _ b29 _ H
 rw [(slf_one (h1.le le0))] at H
 refine RW.v ?_
 refine RW.nil ?_
 refine W.rg [(1, .pointer (some ⟨b29, 0, none⟩))] fun TA => ?_
 refine W.seq (W.region ?_)
 refine RW.val (v := .func (.func 74) #[] #[.pointer (some ⟨b29, 0, none⟩)]) (by kernel_rfl) (by kernel_rfl) (by kernel_rfl) (by kernel_rfl) ?_
 refine RW.v ?_
 refine RW.nil ?_
 refine W.ret ?_
 refine endG (by rfl) (by exact resL_tmp rfl) ?_
 refine RW.nil ?_
 refine W.rg [(2, .pointer (some ⟨b21, 0, none⟩)), (3, .pointer (some ⟨b27, 0, none⟩)), (4, .pointer (some ⟨b28, 0, none⟩)), (9, .func (.func 74) #[] #[.pointer (some ⟨b29, 0, none⟩)])] fun TA => ?_
 refine W.block ?_
 refine W.rst [(2, .pointer (some ⟨b21, 0, none⟩)), (3, .pointer (some ⟨b27, 0, none⟩)), (4, .pointer (some ⟨b28, 0, none⟩)), (9, .func (.func 74) #[] #[.pointer (some ⟨b29, 0, none⟩)])] ⟨rfl, rfl, rfl, rfl, trivial⟩ fun TL34 => ?_
 refine W.rangeL H rfl (fun _ h => nomatch h) (fun _ h => nomatch h) (by kernel_rfl) fun _ d30 b31 lp32 hl33 H => ?_
 refine WC.enter (fn := Tryd.f74) Tryd.func74 rfl ?_
 refine W.rg [(0, .func (.yield b31) #[] #[]), (1, .pointer (some ⟨b29, 0, none⟩))] fun TA => ?_
 refine W.seq (W.region ?_)
 refine RW.ld H 2 1 ?_
 refine RW.len (by kernel_rfl) (by kernel_rfl) rfl rfl rfl rfl ((h1.le le0).len (e := 52) (by kernel_rfl)) (by kernel_rfl) ?_
 refine RW.v ?_
 refine RW.nil ?_
 refine W.rg [(0, .func (.yield b31) #[] #[]), (8, v1), (9, .int .i64 (l.length : Int)), (10, .int .i64 0)] fun TA => ?_
 refine W.block ?_
 replace H := H.nilSl 39 5
 refine W.loop (fun mm ta σ => ∃ (i : Nat) (F : Nat → Option Blk2) (u : Value) (B : List (Nat × Nat)) (R : List RowV) (q : Nat) (bc : Nat) (bp : Nat) (s : Fil) (ov : Bool) (col : Nat), (mm + i = l.length) ∧ (Le F0 F) ∧ (B.length = R.length) ∧ (R.length ≤ most) ∧ (s.Ok wd) ∧ (col + 64 * (charsM (l.drop i)).length ≤ 100000000) ∧ (T = finS to_ most (runU to_ wd wrap most (unitsM tab col (charsM (l.drop i))) ⟨R, to_, s, ov, false⟩)) ∧ Lies G A F σ (.sl 39 5 u R.length (rowsV (csB wd B) (psB wd B) (tosX R to_)) :: .at_ b31 lp32 :: .at_ d30 (.defs true) :: .at_ b29 (.row ⟨[v1], 22, false⟩) :: .at_ b28 (.row ⟨[.int .i64 ((col : Nat) : Int)], 3, false⟩) :: .at_ b27 (.row ⟨[.func (.yield b23) #[] #[]], 100, false⟩) :: .at_ b23 lp24 :: .at_ d22 (.defs true) :: .at_ b21 (.row ⟨[.int .i64 ((tab : Nat) : Int)], 3, false⟩) :: .at_ b20 (.row ⟨[v1], 22, false⟩) :: .at_ b19 (.row ⟨[.bool ov], 4, false⟩) :: .at_ b18 (.row ⟨[.pointer (some ⟨q, 0, none⟩)], 90, false⟩) :: .at_ q (.row ⟨[.slice (some ⟨bc, 0, none⟩) wd wd, .slice (some ⟨bp, 0, none⟩) wd wd, .int .i64 s.fr, .int .i64 0, .bool s.co, .int .i64 ((s.n : Nat) : Int)], 99, false⟩) :: .at_ bc (.row ⟨cC s.C, 79, false⟩) :: .at_ bp (.row ⟨s.P.map (Value.int .i64), 3, false⟩) :: .at_ b14 (.row ⟨[.func (.yield b10) #[] #[]], 89, false⟩) :: .at_ b10 lp11 :: .at_ d9 (.defs true) :: .at_ b8 (.row ⟨[.bool wrap], 4, false⟩) :: .at_ b7 (.row ⟨[.int .i64 ((tab : Nat) : Int)], 3, false⟩) :: .at_ b6 (.row ⟨[.int .i64 ((wd : Nat) : Int)], 3, false⟩) :: .at_ b5 (.row ⟨[.int .i64 to_], 3, false⟩) :: .at_ b4 (.row ⟨[v1], 22, false⟩) :: .at_ b3 (.row ⟨[u], 27, false⟩) :: .at_ b2 (.row ⟨[.int .i64 ((most : Nat) : Int)], 3, false⟩) :: .at_ b1 (.row ⟨[.int .i64 to_], 3, false⟩) :: ((REs B R ++ L))) ∧ ta 0 = .func (.yield b31) #[] #[] ∧ ta 8 = v1 ∧ ta 9 = .int .i64 (l.length : Int) ∧ ta 10 = .int .i64 ((i : Nat) : Int)) l.length ?_ ?_
 ·exact ⟨0, F, .slice none 0 0, [], [], q15, bc16, bp17, (fil0 wd), false, 0, (by omega), le0, rfl, (Nat.zero_le _), (ok_fil0 (by omega)), (by have := charsM_len hsm; show 0 + 64 * (charsM l).length ≤ _; omega), hT, H, rfl, rfl, rfl, rfl⟩
 clear H
 rintro mm ta _ ⟨i, F, u, B, R, q, bc, bp, s, ov, col, hm, le0, hB, hR, ok, hcol, hT, H, e0, e8, e9, e10⟩
 refine W.rst [(0, .func (.yield b31) #[] #[]), (8, v1), (9, .int .i64 (l.length : Int)), (10, .int .i64 ((i : Nat) : Int))] ⟨e0, e8, e9, e10, trivial⟩ fun TA => ?_
 clear e0 e8 e9 e10
 refine W.seq (W.region ?_)
 refine RW.v ?_
 refine RW.nil ?_
 refine W.rg [(0, .func (.yield b31) #[] #[]), (8, v1), (9, .int .i64 (l.length : Int)), (10, .int .i64 ((i : Nat) : Int)), (11, .bool (decide (((i : Nat) : Int) < (l.length : Int))))] fun TA => ?_
 refine W.seq ?_
 refine W.cond rfl (fun hc35 => ?_) (fun hc35 => ?_)
 ·have hc35b := hc35
  have hc35 := of_decide_eq_true hc35
  have hil : i < l.length := by omega
  refine W.skip ?_
  refine W.seq ?_
  refine W.block ?_
  refine W.seq (W.region ?_)
  refine RW.idxF (h1.le le0) (by kernel_rfl) (by kernel_rfl) rfl Tryd.underlying22 (by kernel_rfl) rfl rfl ⟨by omega, by omega⟩ (by kernel_rfl) ?_
  intro b36 q37 r38 hF39 hE40
  rw [pC_ati (l := l) (j := i) (by omega)] at hE40
  refine RW.loads 9 (by kernel_rfl) (by kernel_rfl) rfl rfl (H.old _ _ hF39) hE40 rfl (by kernel_rfl) ?_
  refine RW.mk H (.row ⟨[.int .i64 0, .int .i64 0, .int .i64 0, .string ByteArray.empty, .int .i64 0, .int .i64 0, .bool false, .bool false, .bool false], 52, false⟩) ?_
  clear H; intro _ b41 _ H
  refine RW.st H 0 [.int .i64 ((l.getD i default).k), .int .i64 ((l.getD i default).p), .int .i64 ((l.getD i default).t), .string ⟨((l.getD i default).s).toArray⟩, .int .i64 ((l.getD i default).b), .int .i64 ((l.getD i default).c), .bool ((l.getD i default).d), .bool ((l.getD i default).e), .bool ((l.getD i default).f)] [.int .i64 ((l.getD i default).k), .int .i64 ((l.getD i default).p), .int .i64 ((l.getD i default).t), .string ⟨((l.getD i default).s).toArray⟩, .int .i64 ((l.getD i default).b), .int .i64 ((l.getD i default).c), .bool ((l.getD i default).d), .bool ((l.getD i default).e), .bool ((l.getD i default).f)] ?_
  clear H; intro _ _ H; dsimp only [setL, delL] at H
  refine RW.nil ?_
  refine W.rg [(0, .func (.yield b31) #[] #[]), (4, .pointer (some ⟨b41, 0, none⟩)), (8, v1), (9, .int .i64 (l.length : Int)), (10, .int .i64 ((i : Nat) : Int))] fun TA => ?_
  refine W.seq (W.region ?_)
  refine RW.v ?_
  refine RW.ld H 0 1 ?_
  refine RW.v ?_
  refine RW.nil ?_
  refine W.rg [(0, .func (.yield b31) #[] #[]), (4, .pointer (some ⟨b41, 0, none⟩)), (5, .int .i64 ((l.getD i default).p)), (8, v1), (9, .int .i64 (l.length : Int)), (10, .int .i64 ((i : Nat) : Int))] fun TA => ?_
  refine W.seq (W.region ?_)
  refine RW.v ?_
  refine RW.ld H 0 1 ?_
  refine RW.mk H (.iter ⟨(l.getD i default).s.toArray⟩ 0) ?_
  clear H; intro _ it42 _ H
  refine RW.nil ?_
  refine W.rg [(0, .func (.yield b31) #[] #[]), (4, .pointer (some ⟨b41, 0, none⟩)), (5, .int .i64 ((l.getD i default).p)), (8, v1), (9, .int .i64 (l.length : Int)), (10, .int .i64 ((i : Nat) : Int)), (18, .pointer (some ⟨it42, 0, none⟩))] fun TA => ?_
  refine W.block ?_
  have hbd := check_bounds hck _ (get_mem hil)
  have hrl := Nat.le_trans (runes_le (l.getD i default).s) (hsm _ (get_mem hil))
  rw [charsM_at hil] at hT hcol
  refine W.loop (fun mm2 ta σ => ∃ (p : Nat) (ps : Int) (F : Nat → Option Blk2) (u : Value) (B : List (Nat × Nat)) (R : List RowV) (q : Nat) (bc : Nat) (bp : Nat) (s : Fil) (ov : Bool) (col : Nat), ((l.getD i default).s.length ≤ mm2 + p) ∧ (1 ≤ ps ∧ ps + (((runes ((l.getD i default).s.drop p)).length : Nat) : Int) ≤ 100000) ∧ (Le F0 F) ∧ (B.length = R.length) ∧ (R.length ≤ most) ∧ (s.Ok wd) ∧ (col + 64 * (charsP (l.getD i default) ps (runes ((l.getD i default).s.drop p)) ++ charsM (l.drop (i + 1))).length ≤ 100000000) ∧ (T = finS to_ most (runU to_ wd wrap most (unitsM tab col (charsP (l.getD i default) ps (runes ((l.getD i default).s.drop p)) ++ charsM (l.drop (i + 1)))) ⟨R, to_, s, ov, false⟩)) ∧ Lies G A F σ (.at_ it42 (.iter ⟨(l.getD i default).s.toArray⟩ p) :: .at_ b41 (.row ⟨[.int .i64 ((l.getD i default).k), .int .i64 ((l.getD i default).p), .int .i64 ((l.getD i default).t), .string ⟨((l.getD i default).s).toArray⟩, .int .i64 ((l.getD i default).b), .int .i64 ((l.getD i default).c), .bool ((l.getD i default).d), .bool ((l.getD i default).e), .bool ((l.getD i default).f)], 52, false⟩) :: .sl 39 5 u R.length (rowsV (csB wd B) (psB wd B) (tosX R to_)) :: .at_ b31 lp32 :: .at_ d30 (.defs true) :: .at_ b29 (.row ⟨[v1], 22, false⟩) :: .at_ b28 (.row ⟨[.int .i64 ((col : Nat) : Int)], 3, false⟩) :: .at_ b27 (.row ⟨[.func (.yield b23) #[] #[]], 100, false⟩) :: .at_ b23 lp24 :: .at_ d22 (.defs true) :: .at_ b21 (.row ⟨[.int .i64 ((tab : Nat) : Int)], 3, false⟩) :: .at_ b20 (.row ⟨[v1], 22, false⟩) :: .at_ b19 (.row ⟨[.bool ov], 4, false⟩) :: .at_ b18 (.row ⟨[.pointer (some ⟨q, 0, none⟩)], 90, false⟩) :: .at_ q (.row ⟨[.slice (some ⟨bc, 0, none⟩) wd wd, .slice (some ⟨bp, 0, none⟩) wd wd, .int .i64 s.fr, .int .i64 0, .bool s.co, .int .i64 ((s.n : Nat) : Int)], 99, false⟩) :: .at_ bc (.row ⟨cC s.C, 79, false⟩) :: .at_ bp (.row ⟨s.P.map (Value.int .i64), 3, false⟩) :: .at_ b14 (.row ⟨[.func (.yield b10) #[] #[]], 89, false⟩) :: .at_ b10 lp11 :: .at_ d9 (.defs true) :: .at_ b8 (.row ⟨[.bool wrap], 4, false⟩) :: .at_ b7 (.row ⟨[.int .i64 ((tab : Nat) : Int)], 3, false⟩) :: .at_ b6 (.row ⟨[.int .i64 ((wd : Nat) : Int)], 3, false⟩) :: .at_ b5 (.row ⟨[.int .i64 to_], 3, false⟩) :: .at_ b4 (.row ⟨[v1], 22, false⟩) :: .at_ b3 (.row ⟨[u], 27, false⟩) :: .at_ b2 (.row ⟨[.int .i64 ((most : Nat) : Int)], 3, false⟩) :: .at_ b1 (.row ⟨[.int .i64 to_], 3, false⟩) :: ((REs B R ++ L))) ∧ ta 0 = .func (.yield b31) #[] #[] ∧ ta 4 = .pointer (some ⟨b41, 0, none⟩) ∧ ta 5 = .int .i64 ps ∧ ta 8 = v1 ∧ ta 9 = .int .i64 (l.length : Int) ∧ ta 10 = .int .i64 ((i : Nat) : Int) ∧ ta 18 = .pointer (some ⟨it42, 0, none⟩)) ((l.getD i default).s.length) ?_ ?_
  ·exact ⟨0, (l.getD i default).p, F, u, B, R, q, bc, bp, s, ov, col, (by omega), (⟨hbd.1, by have := hbd.2; show _ + (((runes (l.getD i default).s).length : Nat) : Int) ≤ _; omega⟩), le0, hB, hR, ok, hcol, hT, H, rfl, rfl, rfl, rfl, rfl, rfl, rfl⟩
  clear H
  rintro mm2 ta _ ⟨p, ps, F, u, B, R, q, bc, bp, s, ov, col, hm2, hps, le0, hB, hR, ok, hcol, hT, H, e0, e4, e5, e8, e9, e10, e18⟩
  refine W.rst [(0, .func (.yield b31) #[] #[]), (4, .pointer (some ⟨b41, 0, none⟩)), (5, .int .i64 ps), (8, v1), (9, .int .i64 (l.length : Int)), (10, .int .i64 ((i : Nat) : Int)), (18, .pointer (some ⟨it42, 0, none⟩))] ⟨e0, e4, e5, e8, e9, e10, e18, trivial⟩ fun TA => ?_
  clear e0 e4 e5 e8 e9 e10 e18
  refine W.seq (W.region ?_)
  rcases Nat.lt_or_ge p (l.getD i default).s.length with hp | hp
  ·refine RW.nxtT H 0 hp ?_
   clear H; intro _ _ c p2 hlt hcr hr H
   dsimp only [setL, delL] at H
   rw [hr] at hT hcol hps
   obtain ⟨rest, hrest⟩ : ∃ rest, rest = charsP (l.getD i default) (if (l.getD i default).k = 0 then ps + 1 else ps) (runes ((l.getD i default).s.drop p2)) ++ charsM (l.drop (i + 1)) := ⟨_, rfl⟩
   replace hT : T = finS to_ most (runU to_ wd wrap most (unitsM tab col ((((c : Nat) : Int), ps, (l.getD i default)) :: rest)) ⟨R, to_, s, ov, false⟩) := by rw [hrest]; exact hT
   replace hcol : col + 64 * (rest.length + 1) ≤ 100000000 := by rw [hrest]; exact hcol
   replace hps : 1 ≤ ps ∧ ps + (((runes ((l.getD i default).s.drop p2)).length + 1 : Nat) : Int) ≤ 100000 := hps
   have hps1 := hps.1
   have hps2 := hps.2
   refine RW.v ?_
   refine RW.nil ?_
   refine W.rg [(0, .func (.yield b31) #[] #[]), (4, .pointer (some ⟨b41, 0, none⟩)), (5, .int .i64 ps), (8, v1), (9, .int .i64 (l.length : Int)), (10, .int .i64 ((i : Nat) : Int)), (18, .pointer (some ⟨it42, 0, none⟩)), (19, .tuple #[.bool true, .int .i64 ((p : Nat) : Int), .int .i32 ((c : Nat) : Int)]), (20, .bool true)] fun TA => ?_
   refine W.seq ?_
   refine W.c1 ?_
   refine W.skip ?_
   refine W.block ?_
   refine W.seq (W.region ?_)
   iterate 2 refine RW.v ?_
   refine RW.nil ?_
   refine W.rg [(0, .func (.yield b31) #[] #[]), (4, .pointer (some ⟨b41, 0, none⟩)), (5, .int .i64 ps), (7, .int .i32 ((c : Nat) : Int)), (8, v1), (9, .int .i64 (l.length : Int)), (10, .int .i64 ((i : Nat) : Int)), (18, .pointer (some ⟨it42, 0, none⟩))] fun TA => ?_
   refine W.seq ?_
   refine W.seq (W.region ?_)
   iterate 2 refine RW.v ?_
   refine RW.valE (v' := .int .i64 ((c : Nat) : Int)) (by kernel_rfl) (by kernel_rfl) rfl (congrArg (Value.int .i64) (wrap_in (by omega) (by omega))) (by kernel_rfl) ?_
   iterate 2 refine RW.v ?_
   refine RW.ld H 1 5 ?_
   refine RW.val (v := .agg #[.int .i64 ((c : Nat) : Int), .int .i64 ps, .int .i64 ((l.getD i default).b), .int .i64 ((l.getD i default).c), .bool ((l.getD i default).d), .bool ((l.getD i default).e), .bool ((l.getD i default).f)]) (by kernel_rfl) (by kernel_rfl) (by kernel_rfl) (by kernel_rfl) ?_
   refine RW.yieldL H 3 rfl hl33 (by kernel_rfl) (by kernel_rfl) rfl rfl rfl rfl rfl (by kernel_rfl) ?_
   refine W.rg [(2, .pointer (some ⟨b21, 0, none⟩)), (3, .pointer (some ⟨b27, 0, none⟩)), (4, .pointer (some ⟨b28, 0, none⟩)), (9, .func (.func 74) #[] #[.pointer (some ⟨b29, 0, none⟩)]), (10, .agg #[.int .i64 ((c : Nat) : Int), .int .i64 ps, .int .i64 ((l.getD i default).b), .int .i64 ((l.getD i default).c), .bool ((l.getD i default).d), .bool ((l.getD i default).e), .bool ((l.getD i default).f)])] fun TA => ?_
   refine W.region ?_
   refine RW.mk H (.row ⟨[.int .i64 0, .int .i64 0, .int .i64 0, .int .i64 0, .bool false, .bool false, .bool false], 116, false⟩) ?_
   clear H; intro _ b43 _ H
   refine RW.st H 0 [.int .i64 ((c : Nat) : Int), .int .i64 ps, .int .i64 ((l.getD i default).b), .int .i64 ((l.getD i default).c), .bool ((l.getD i default).d), .bool ((l.getD i default).e), .bool ((l.getD i default).f)] [.int .i64 ((c : Nat) : Int), .int .i64 ps, .int .i64 ((l.getD i default).b), .int .i64 ((l.getD i default).c), .bool ((l.getD i default).d), .bool ((l.getD i default).e), .bool ((l.getD i default).f)] ?_
   clear H; intro _ _ H; dsimp only [setL, delL] at H
   refine RW.nil ?_
   refine ⟨rfl, _, _, _, 4, H, rfl, ?_⟩
   clear H; intro _ lq44 hq45 H
   dsimp only [setL, delL] at H
   refine W.rg [(2, .pointer (some ⟨b21, 0, none⟩)), (3, .pointer (some ⟨b27, 0, none⟩)), (4, .pointer (some ⟨b28, 0, none⟩)), (5, .pointer (some ⟨b43, 0, none⟩)), (9, .func (.func 74) #[] #[.pointer (some ⟨b29, 0, none⟩)]), (10, .agg #[.int .i64 ((c : Nat) : Int), .int .i64 ps, .int .i64 ((l.getD i default).b), .int .i64 ((l.getD i default).c), .bool ((l.getD i default).d), .bool ((l.getD i default).e), .bool ((l.getD i default).f)])] fun TA => ?_
   refine W.block ?_
   refine W.seq ?_
   refine W.drawn (by kernel_rfl) (by kernel_rfl) H.gn ?_
   have H46 := H
   refine RW.v ?_
   refine RW.ld H46 0 1 ?_
   refine RW.val (v := .agg #[.slice none 0 0, .int .i64 ps, .bool false]) (by kernel_rfl) (by kernel_rfl) (by kernel_rfl) (by kernel_rfl) ?_
   refine RW.mkD H46 (x := .row ⟨[.slice none 0 0, .int .i64 0, .bool false], 96, false⟩) (fm := fun b => .pointer (some ⟨b, 0, none⟩)) (by kernel_rfl) (by kernel_rfl) (by kernel_rfl) (by kernel_rfl) ?_
   intro _ b47 H48
   refine RW.v ?_
   refine RW.stD H48 0 (vs := [.slice none 0 0, .int .i64 ps, .bool false]) (cs' := [.slice none 0 0, .int .i64 ps, .bool false]) (by kernel_rfl) (by kernel_rfl) rfl rfl rfl rfl rfl (by kernel_rfl) (Nat.le_of_ble_eq_true rfl) rfl (by kernel_rfl) ?_
   intro _ H49
   dsimp only [setL, delL] at H49
   refine RW.nil ?_
   refine ⟨⟨by kernel_rfl, ⟨trivial, dyn_row (H46.get 0 rfl) (H49.get 1 rfl) ⟨nB, nB, nB, nB, nB, fun _ => H48.get 1 rfl, trivial⟩, trivial, Or.inl (by kernel_rfl), trivial, trivial, trivial⟩⟩, ?_⟩
   replace H := H49
   clear H46 H48 H49
   refine W.rg [(2, .pointer (some ⟨b21, 0, none⟩)), (3, .pointer (some ⟨b27, 0, none⟩)), (4, .pointer (some ⟨b28, 0, none⟩)), (5, .pointer (some ⟨b43, 0, none⟩)), (6, .int .i64 1), (7, .pointer (some ⟨b47, 0, none⟩)), (9, .func (.func 74) #[] #[.pointer (some ⟨b29, 0, none⟩)]), (10, .agg #[.int .i64 ((c : Nat) : Int), .int .i64 ps, .int .i64 ((l.getD i default).b), .int .i64 ((l.getD i default).c), .bool ((l.getD i default).d), .bool ((l.getD i default).e), .bool ((l.getD i default).f)])] fun TA => ?_
   refine W.join (fun ta σ => ∃ (n : Nat) (uv : Value) (fd : Bool) (cn : Nat) (XS : List Cel) (F : Nat → Option Blk2), (Le F0 F) ∧ (SlF F 6 uv XS.length (cC XS)) ∧ (XS.length ≤ 2) ∧ (cn + n * XS.length ≤ col + 64) ∧ (n ≤ 64) ∧ (T = finS to_ most (runU to_ wd wrap most (List.replicate n ⟨XS, ps, fd⟩ ++ unitsM tab (cn + n * XS.length) rest) ⟨R, to_, s, ov, false⟩)) ∧ Lies G A F σ (.at_ b47 (.row ⟨[uv, .int .i64 ps, .bool fd], 96, false⟩) :: .at_ it42 (.iter ⟨(l.getD i default).s.toArray⟩ p2) :: .at_ b41 (.row ⟨[.int .i64 ((l.getD i default).k), .int .i64 ((l.getD i default).p), .int .i64 ((l.getD i default).t), .string ⟨((l.getD i default).s).toArray⟩, .int .i64 ((l.getD i default).b), .int .i64 ((l.getD i default).c), .bool ((l.getD i default).d), .bool ((l.getD i default).e), .bool ((l.getD i default).f)], 52, false⟩) :: .sl 39 5 u R.length (rowsV (csB wd B) (psB wd B) (tosX R to_)) :: .at_ b31 lq44 :: .at_ d30 (.defs true) :: .at_ b29 (.row ⟨[v1], 22, false⟩) :: .at_ b28 (.row ⟨[.int .i64 ((cn : Nat) : Int)], 3, false⟩) :: .at_ b27 (.row ⟨[.func (.yield b23) #[] #[]], 100, false⟩) :: .at_ b23 lp24 :: .at_ d22 (.defs true) :: .at_ b21 (.row ⟨[.int .i64 ((tab : Nat) : Int)], 3, false⟩) :: .at_ b20 (.row ⟨[v1], 22, false⟩) :: .at_ b19 (.row ⟨[.bool ov], 4, false⟩) :: .at_ b18 (.row ⟨[.pointer (some ⟨q, 0, none⟩)], 90, false⟩) :: .at_ q (.row ⟨[.slice (some ⟨bc, 0, none⟩) wd wd, .slice (some ⟨bp, 0, none⟩) wd wd, .int .i64 s.fr, .int .i64 0, .bool s.co, .int .i64 ((s.n : Nat) : Int)], 99, false⟩) :: .at_ bc (.row ⟨cC s.C, 79, false⟩) :: .at_ bp (.row ⟨s.P.map (Value.int .i64), 3, false⟩) :: .at_ b14 (.row ⟨[.func (.yield b10) #[] #[]], 89, false⟩) :: .at_ b10 lp11 :: .at_ d9 (.defs true) :: .at_ b8 (.row ⟨[.bool wrap], 4, false⟩) :: .at_ b7 (.row ⟨[.int .i64 ((tab : Nat) : Int)], 3, false⟩) :: .at_ b6 (.row ⟨[.int .i64 ((wd : Nat) : Int)], 3, false⟩) :: .at_ b5 (.row ⟨[.int .i64 to_], 3, false⟩) :: .at_ b4 (.row ⟨[v1], 22, false⟩) :: .at_ b3 (.row ⟨[u], 27, false⟩) :: .at_ b2 (.row ⟨[.int .i64 ((most : Nat) : Int)], 3, false⟩) :: .at_ b1 (.row ⟨[.int .i64 to_], 3, false⟩) :: ((REs B R ++ L))) ∧ ta 3 = .pointer (some ⟨b27, 0, none⟩) ∧ ta 4 = .pointer (some ⟨b28, 0, none⟩) ∧ ta 6 = .int .i64 ((n : Nat) : Int) ∧ ta 7 = .pointer (some ⟨b47, 0, none⟩)) ?_ ?_
   ·refine W.seq (W.region ?_)
    refine RW.v ?_
    refine RW.ld H 1 1 ?_
    refine RW.nil ?_
    refine W.rg [(2, .pointer (some ⟨b21, 0, none⟩)), (3, .pointer (some ⟨b27, 0, none⟩)), (4, .pointer (some ⟨b28, 0, none⟩)), (5, .pointer (some ⟨b43, 0, none⟩)), (6, .int .i64 1), (7, .pointer (some ⟨b47, 0, none⟩)), (9, .func (.func 74) #[] #[.pointer (some ⟨b29, 0, none⟩)]), (10, .agg #[.int .i64 ((c : Nat) : Int), .int .i64 ps, .int .i64 ((l.getD i default).b), .int .i64 ((l.getD i default).c), .bool ((l.getD i default).d), .bool ((l.getD i default).e), .bool ((l.getD i default).f)]), (15, .int .i64 ((c : Nat) : Int))] fun TA => ?_
    refine W.block ?_
    refine W.seq (W.region ?_)
    iterate 2 refine RW.v ?_
    refine RW.nil ?_
    refine W.rg [(2, .pointer (some ⟨b21, 0, none⟩)), (3, .pointer (some ⟨b27, 0, none⟩)), (4, .pointer (some ⟨b28, 0, none⟩)), (5, .pointer (some ⟨b43, 0, none⟩)), (6, .int .i64 1), (7, .pointer (some ⟨b47, 0, none⟩)), (9, .func (.func 74) #[] #[.pointer (some ⟨b29, 0, none⟩)]), (10, .agg #[.int .i64 ((c : Nat) : Int), .int .i64 ps, .int .i64 ((l.getD i default).b), .int .i64 ((l.getD i default).c), .bool ((l.getD i default).d), .bool ((l.getD i default).e), .bool ((l.getD i default).f)]), (15, .int .i64 ((c : Nat) : Int)), (22, .bool (((c : Nat) : Int) == 10))] fun TA => ?_
    refine W.cond rfl (fun hc50 => ?_) (fun hc50 => ?_)
    ·have hc50b := hc50
     have hc50 := eq_of_beq hc50
     refine W.seq (W.region ?_)
     refine RW.v ?_
     refine RW.st H 0 [.bool true] [.slice none 0 0, .int .i64 ps, .bool true] ?_
     clear H; intro _ _ H; dsimp only [setL, delL] at H
     refine RW.nil ?_
     replace H := (H.del 1)
     dsimp only [setL, delL] at H
     refine W.rg [(2, .pointer (some ⟨b21, 0, none⟩)), (3, .pointer (some ⟨b27, 0, none⟩)), (4, .pointer (some ⟨b28, 0, none⟩)), (6, .int .i64 1), (7, .pointer (some ⟨b47, 0, none⟩)), (9, .func (.func 74) #[] #[.pointer (some ⟨b29, 0, none⟩)]), (10, .agg #[.int .i64 ((c : Nat) : Int), .int .i64 ps, .int .i64 ((l.getD i default).b), .int .i64 ((l.getD i default).c), .bool ((l.getD i default).d), .bool ((l.getD i default).e), .bool ((l.getD i default).f)])] fun TA => ?_
     refine W.region ?_
     refine RW.st H 7 [.int .i64 0] [.int .i64 0] ?_
     clear H; intro _ _ H; dsimp only [setL, delL] at H
     refine RW.nil ?_
     refine blkQ_normal ?_
     exact ⟨rfl, rfl, 1, .slice none 0 0, true, 0, [], F, le0, (.nil _ rfl), (by simp), (by simp only [List.length_cons, List.length_nil]; omega), (by omega), (hT.trans (congrArg (fun z => finS to_ most (runU to_ wd wrap most z ⟨R, to_, s, ov, false⟩)) (u_feed hc50))), H, rfl, rfl, rfl, rfl⟩
    ·have hc50b := hc50
     have hc50 := ne_of_beq_false hc50
     refine W.seq (W.region ?_)
     iterate 2 refine RW.v ?_
     refine RW.nil ?_
     refine W.rg [(2, .pointer (some ⟨b21, 0, none⟩)), (3, .pointer (some ⟨b27, 0, none⟩)), (4, .pointer (some ⟨b28, 0, none⟩)), (5, .pointer (some ⟨b43, 0, none⟩)), (6, .int .i64 1), (7, .pointer (some ⟨b47, 0, none⟩)), (9, .func (.func 74) #[] #[.pointer (some ⟨b29, 0, none⟩)]), (10, .agg #[.int .i64 ((c : Nat) : Int), .int .i64 ps, .int .i64 ((l.getD i default).b), .int .i64 ((l.getD i default).c), .bool ((l.getD i default).d), .bool ((l.getD i default).e), .bool ((l.getD i default).f)]), (25, .bool (((c : Nat) : Int) == 9))] fun TA => ?_
     refine W.cond rfl (fun hc51 => ?_) (fun hc51 => ?_)
     ·have hc51b := hc51
      have hc51 := eq_of_beq hc51
      refine W.seq ?_
      refine W.drawn (by kernel_rfl) (by kernel_rfl) H.gn ?_
      have H52 := H
      refine RW.ld H52 12 1 ?_
      refine RW.ld H52 8 1 ?_
      refine RW.ld H52 12 1 ?_
      have hmod := Nat.mod_lt col (show 0 < tab by omega)
      have em : Int.tmod ((col : Nat) : Int) ((tab : Nat) : Int) = ((col % tab : Nat) : Int) := (Int.ofNat_tmod _ _).symm
      refine RW.vop (v := .int .i64 ((col % tab : Nat) : Int)) (by kernel_rfl) (by kernel_rfl) (vop_fastBin rfl rfl rfl ((rem_fastZ (by omega)).trans (congrArg (fun z => some (Value.int .i64 z)) em))) (by kernel_rfl) ?_
      refine RW.valE (v' := .int .i64 ((tab - col % tab : Nat) : Int)) (by kernel_rfl) (by kernel_rfl) rfl (congrArg (Value.int .i64) ((wrap_in (by omega) (by omega)).trans (by omega))) (by kernel_rfl) ?_
      refine RW.v ?_
      refine RW.nil ?_
      refine ⟨⟨by kernel_rfl, ⟨dyn_row (H52.get 12 rfl) (H52.get 12 rfl) ⟨nB, nB, nB, nB, nB, nB, trivial⟩, dyn_row (H52.get 8 rfl) (H52.get 8 rfl) ⟨nB, nB, nB, nB, nB, nB, trivial⟩, dyn_row (H52.get 12 rfl) (H52.get 12 rfl) ⟨nB, nB, nB, nB, nB, nB, trivial⟩, trivial, trivial, trivial, trivial⟩⟩, ?_⟩
      replace H := H52
      clear H52
      refine W.rg [(2, .pointer (some ⟨b21, 0, none⟩)), (3, .pointer (some ⟨b27, 0, none⟩)), (4, .pointer (some ⟨b28, 0, none⟩)), (5, .pointer (some ⟨b43, 0, none⟩)), (6, .int .i64 (((tab - col % tab) : Nat) : Int)), (7, .pointer (some ⟨b47, 0, none⟩)), (9, .func (.func 74) #[] #[.pointer (some ⟨b29, 0, none⟩)]), (10, .agg #[.int .i64 ((c : Nat) : Int), .int .i64 ps, .int .i64 ((l.getD i default).b), .int .i64 ((l.getD i default).c), .bool ((l.getD i default).d), .bool ((l.getD i default).e), .bool ((l.getD i default).f)])] fun TA => ?_
      refine W.region ?_
      refine RW.v ?_
      refine RW.ld H 1 5 ?_
      refine RW.val (v := .agg #[.int .i64 32, .int .i64 ((l.getD i default).b), .int .i64 ((l.getD i default).c), .bool ((l.getD i default).d), .bool ((l.getD i default).e), .bool ((l.getD i default).f)]) (by kernel_rfl) (by kernel_rfl) (by kernel_rfl) (by kernel_rfl) ?_
      refine RW.mkL H (x := .row ⟨[.int .i64 32, .int .i64 ((l.getD i default).b), .int .i64 ((l.getD i default).c), .bool ((l.getD i default).d), .bool ((l.getD i default).e), .bool ((l.getD i default).f)], 79, false⟩) (fm := fun b => .slice (some ⟨b, 0, none⟩) 1 1) (by kernel_rfl) (by kernel_rfl) (by kernel_rfl) (by kernel_rfl) ?_
      clear H; intro _ b53 _ H
      refine RW.v ?_
      refine RW.st H 1 [.slice (some ⟨b53, 0, none⟩) 1 1] [.slice (some ⟨b53, 0, none⟩) 1 1, .int .i64 ps, .bool false] ?_
      clear H; intro _ _ H; dsimp only [setL, delL] at H
      refine RW.nil ?_
      replace H := (H.del 2)
      dsimp only [setL, delL] at H
      refine blkQ_normal ?_
      obtain ⟨F, le, hq, H⟩ := H.freeze 0 rfl
      dsimp only [setL, delL] at H
      replace le0 := fun b y h => le b y (le0 b y h)
      exact ⟨rfl, rfl, (tab - col % tab), .slice (some ⟨b53, 0, none⟩) 1 1, false, col, [⟨32, (l.getD i default).b, (l.getD i default).c, (l.getD i default).d, (l.getD i default).e, (l.getD i default).f⟩], F, le0, (.some hq rfl rfl), (by simp), (by simp only [List.length_cons, List.length_nil]; omega), (by omega), (hT.trans (congrArg (fun z => finS to_ most (runU to_ wd wrap most z ⟨R, to_, s, ov, false⟩)) (u_tab hc51))), H, rfl, rfl, rfl, rfl⟩
     ·have hc51b := hc51
      have hc51 := ne_of_beq_false hc51
      refine W.seq (W.region ?_)
      refine RW.ld H 1 7 ?_
      refine RW.cl ?_
      refine ((cells_wc (x := (l.getD i default)) (c := c) (pos := ps) H).mono ?_)
      clear H
      rintro _ _ (⟨hz54, rfl, H⟩ | ⟨b55, hz54, rfl, H⟩)
      ·refine RW.v ?_
       refine RW.st H 0 [.slice none 0 0] [.slice none 0 0, .int .i64 ps, .bool false] ?_
       clear H; intro _ _ H; dsimp only [setL, delL] at H
       refine RW.nil ?_
       replace H := (H.del 1)
       dsimp only [setL, delL] at H
       refine W.rg [(2, .pointer (some ⟨b21, 0, none⟩)), (3, .pointer (some ⟨b27, 0, none⟩)), (4, .pointer (some ⟨b28, 0, none⟩)), (6, .int .i64 1), (7, .pointer (some ⟨b47, 0, none⟩)), (9, .func (.func 74) #[] #[.pointer (some ⟨b29, 0, none⟩)]), (10, .agg #[.int .i64 ((c : Nat) : Int), .int .i64 ps, .int .i64 ((l.getD i default).b), .int .i64 ((l.getD i default).c), .bool ((l.getD i default).d), .bool ((l.getD i default).e), .bool ((l.getD i default).f)])] fun TA => ?_
       refine W.seq (W.region ?_)
       refine RW.v ?_
       refine RW.ld H 0 1 ?_
       refine RW.v ?_
       refine RW.nil ?_
       refine W.c1 ?_
       refine W.region ?_
       refine RW.v ?_
       refine RW.nil ?_
       refine blkQ_normal ?_
       exact ⟨rfl, rfl, 0, .slice none 0 0, false, col, [], F, le0, (.nil _ rfl), (by simp), (by simp only [List.length_cons, List.length_nil]; omega), (by omega), (hT.trans (congrArg (fun z => finS to_ most (runU to_ wd wrap most z ⟨R, to_, s, ov, false⟩)) (u_none hc50 hc51 hz54))), H, rfl, rfl, rfl, rfl⟩
      ·obtain ⟨F, le, hq, H⟩ := H.freeze 0 rfl
       dsimp only [setL, delL] at H
       replace le0 := fun b y h => le b y (le0 b y h)
       refine RW.v ?_
       refine RW.st H 0 [.slice (some ⟨b55, 0, none⟩) ((cellsM ((c : Nat) : Int) (l.getD i default)).length) ((cellsM ((c : Nat) : Int) (l.getD i default)).length)] [.slice (some ⟨b55, 0, none⟩) ((cellsM ((c : Nat) : Int) (l.getD i default)).length) ((cellsM ((c : Nat) : Int) (l.getD i default)).length), .int .i64 ps, .bool false] ?_
       clear H; intro _ _ H; dsimp only [setL, delL] at H
       refine RW.nil ?_
       replace H := (H.del 1)
       dsimp only [setL, delL] at H
       refine W.rg [(2, .pointer (some ⟨b21, 0, none⟩)), (3, .pointer (some ⟨b27, 0, none⟩)), (4, .pointer (some ⟨b28, 0, none⟩)), (6, .int .i64 1), (7, .pointer (some ⟨b47, 0, none⟩)), (9, .func (.func 74) #[] #[.pointer (some ⟨b29, 0, none⟩)]), (10, .agg #[.int .i64 ((c : Nat) : Int), .int .i64 ps, .int .i64 ((l.getD i default).b), .int .i64 ((l.getD i default).c), .bool ((l.getD i default).d), .bool ((l.getD i default).e), .bool ((l.getD i default).f)])] fun TA => ?_
       refine W.seq (W.region ?_)
       refine RW.v ?_
       refine RW.ld H 0 1 ?_
       refine RW.v ?_
       refine RW.nil ?_
       refine W.c0 ?_
       refine W.skip ?_
       refine blkQ_normal ?_
       exact ⟨rfl, rfl, 1, .slice (some ⟨b55, 0, none⟩) ((cellsM ((c : Nat) : Int) (l.getD i default)).length) ((cellsM ((c : Nat) : Int) (l.getD i default)).length), false, col, (cellsM ((c : Nat) : Int) (l.getD i default)), F, le0, (.some hq (cC_len _) (List.take_of_length_le (Nat.le_of_eq (cC_len _)))), (cellsM_len _ _), (by have := cellsM_len ((c : Nat) : Int) (l.getD i default); omega), (by omega), (hT.trans (congrArg (fun z => finS to_ most (runU to_ wd wrap most z ⟨R, to_, s, ov, false⟩)) (u_some hc50 hc51 hz54))), H, rfl, rfl, rfl, rfl⟩
   clear H
   rintro ta _ ⟨n, uv, fd, cn, XS, F, le0, hX, hXl, hcn, hn64, hT, H, e3, e4, e6, e7⟩
   refine W.rst [(3, .pointer (some ⟨b27, 0, none⟩)), (4, .pointer (some ⟨b28, 0, none⟩)), (6, .int .i64 ((n : Nat) : Int)), (7, .pointer (some ⟨b47, 0, none⟩))] ⟨e3, e4, e6, e7, trivial⟩ fun TA => ?_
   clear e3 e4 e6 e7
   refine W.seq ?_
   refine W.seq (W.region ?_)
   iterate 2 refine RW.v ?_
   refine RW.nil ?_
   refine W.rg [(3, .pointer (some ⟨b27, 0, none⟩)), (4, .pointer (some ⟨b28, 0, none⟩)), (6, .int .i64 ((n : Nat) : Int)), (7, .pointer (some ⟨b47, 0, none⟩)), (37, .int .i64 ((n : Nat) : Int)), (38, .int .i64 0)] fun TA => ?_
   refine W.block ?_
   obtain ⟨US, hUS⟩ : ∃ US, US = unitsM tab (cn + n * XS.length) rest := ⟨_, rfl⟩
   rw [← hUS] at hT
   refine W.loop (fun mm3 ta σ => ∃ (j : Nat) (u : Value) (B : List (Nat × Nat)) (R : List RowV) (q : Nat) (bc : Nat) (bp : Nat) (s : Fil) (ov : Bool), (mm3 + j = n) ∧ (B.length = R.length) ∧ (R.length ≤ most) ∧ (s.Ok wd) ∧ (T = finS to_ most (runU to_ wd wrap most (List.replicate (n - j) ⟨XS, ps, fd⟩ ++ US) ⟨R, to_, s, ov, false⟩)) ∧ Lies G A F σ (.at_ b47 (.row ⟨[uv, .int .i64 ps, .bool fd], 96, false⟩) :: .at_ it42 (.iter ⟨(l.getD i default).s.toArray⟩ p2) :: .at_ b41 (.row ⟨[.int .i64 ((l.getD i default).k), .int .i64 ((l.getD i default).p), .int .i64 ((l.getD i default).t), .string ⟨((l.getD i default).s).toArray⟩, .int .i64 ((l.getD i default).b), .int .i64 ((l.getD i default).c), .bool ((l.getD i default).d), .bool ((l.getD i default).e), .bool ((l.getD i default).f)], 52, false⟩) :: .sl 39 5 u R.length (rowsV (csB wd B) (psB wd B) (tosX R to_)) :: .at_ b31 lq44 :: .at_ d30 (.defs true) :: .at_ b29 (.row ⟨[v1], 22, false⟩) :: .at_ b28 (.row ⟨[.int .i64 ((cn : Nat) : Int)], 3, false⟩) :: .at_ b27 (.row ⟨[.func (.yield b23) #[] #[]], 100, false⟩) :: .at_ b23 lp24 :: .at_ d22 (.defs true) :: .at_ b21 (.row ⟨[.int .i64 ((tab : Nat) : Int)], 3, false⟩) :: .at_ b20 (.row ⟨[v1], 22, false⟩) :: .at_ b19 (.row ⟨[.bool ov], 4, false⟩) :: .at_ b18 (.row ⟨[.pointer (some ⟨q, 0, none⟩)], 90, false⟩) :: .at_ q (.row ⟨[.slice (some ⟨bc, 0, none⟩) wd wd, .slice (some ⟨bp, 0, none⟩) wd wd, .int .i64 s.fr, .int .i64 0, .bool s.co, .int .i64 ((s.n : Nat) : Int)], 99, false⟩) :: .at_ bc (.row ⟨cC s.C, 79, false⟩) :: .at_ bp (.row ⟨s.P.map (Value.int .i64), 3, false⟩) :: .at_ b14 (.row ⟨[.func (.yield b10) #[] #[]], 89, false⟩) :: .at_ b10 lp11 :: .at_ d9 (.defs true) :: .at_ b8 (.row ⟨[.bool wrap], 4, false⟩) :: .at_ b7 (.row ⟨[.int .i64 ((tab : Nat) : Int)], 3, false⟩) :: .at_ b6 (.row ⟨[.int .i64 ((wd : Nat) : Int)], 3, false⟩) :: .at_ b5 (.row ⟨[.int .i64 to_], 3, false⟩) :: .at_ b4 (.row ⟨[v1], 22, false⟩) :: .at_ b3 (.row ⟨[u], 27, false⟩) :: .at_ b2 (.row ⟨[.int .i64 ((most : Nat) : Int)], 3, false⟩) :: .at_ b1 (.row ⟨[.int .i64 to_], 3, false⟩) :: ((REs B R ++ L))) ∧ ta 3 = .pointer (some ⟨b27, 0, none⟩) ∧ ta 4 = .pointer (some ⟨b28, 0, none⟩) ∧ ta 6 = .int .i64 ((n : Nat) : Int) ∧ ta 7 = .pointer (some ⟨b47, 0, none⟩) ∧ ta 37 = .int .i64 ((n : Nat) : Int) ∧ ta 38 = .int .i64 ((j : Nat) : Int)) n ?_ ?_
   ·exact ⟨0, u, B, R, q, bc, bp, s, ov, (by omega), hB, hR, ok, hT, H, rfl, rfl, rfl, rfl, rfl, rfl⟩
   clear H
   rintro mm3 ta _ ⟨j, u, B, R, q, bc, bp, s, ov, hm3, hB, hR, ok, hT, H, e3, e4, e6, e7, e37, e38⟩
   refine W.rst [(3, .pointer (some ⟨b27, 0, none⟩)), (4, .pointer (some ⟨b28, 0, none⟩)), (6, .int .i64 ((n : Nat) : Int)), (7, .pointer (some ⟨b47, 0, none⟩)), (37, .int .i64 ((n : Nat) : Int)), (38, .int .i64 ((j : Nat) : Int))] ⟨e3, e4, e6, e7, e37, e38, trivial⟩ fun TA => ?_
   clear e3 e4 e6 e7 e37 e38
   refine W.seq (W.region ?_)
   refine RW.v ?_
   refine RW.nil ?_
   refine W.rg [(3, .pointer (some ⟨b27, 0, none⟩)), (4, .pointer (some ⟨b28, 0, none⟩)), (6, .int .i64 ((n : Nat) : Int)), (7, .pointer (some ⟨b47, 0, none⟩)), (37, .int .i64 ((n : Nat) : Int)), (38, .int .i64 ((j : Nat) : Int)), (39, .bool (decide (((j : Nat) : Int) < ((n : Nat) : Int))))] fun TA => ?_
   refine W.seq ?_
   refine W.cond rfl (fun hc56 => ?_) (fun hc56 => ?_)
   ·have hc56b := hc56
    have hc56 := of_decide_eq_true hc56
    have hjn : j < n := by omega
    rw [rep_step hjn] at hT
    refine W.skip ?_
    refine W.seq ?_
    refine W.block ?_
    refine W.seq (W.region ?_)
    refine RW.ld H 8 1 ?_
    refine RW.ld H 0 3 ?_
    refine RW.yieldL H 9 rfl hl25 (by kernel_rfl) (by kernel_rfl) rfl rfl rfl rfl rfl (by kernel_rfl) ?_
    refine W.rg [(1, .pointer (some ⟨b6, 0, none⟩)), (4, .pointer (some ⟨b8, 0, none⟩)), (5, .pointer (some ⟨b5, 0, none⟩)), (6, .pointer (some ⟨b14, 0, none⟩)), (7, .pointer (some ⟨b18, 0, none⟩)), (8, .pointer (some ⟨b19, 0, none⟩)), (14, .func (.func 65) #[] #[.pointer (some ⟨b20, 0, none⟩), .pointer (some ⟨b21, 0, none⟩)]), (15, .agg #[uv, .int .i64 ps, .bool fd])] fun TA => ?_
    refine W.region ?_
    refine RW.mk H (.row ⟨[.slice none 0 0, .int .i64 0, .bool false], 96, false⟩) ?_
    clear H; intro _ b57 _ H
    refine RW.stL H 0 (vs := [uv, .int .i64 ps, .bool fd]) (cs' := [uv, .int .i64 ps, .bool fd]) (by kernel_rfl) (by kernel_rfl) rfl rfl rfl (by rcases slf_forms hX with rfl | ⟨_, rfl⟩ | ⟨_, _, _, _, _, rfl⟩ <;> rfl) (by rcases slf_forms hX with rfl | ⟨_, rfl⟩ | ⟨_, _, _, _, _, rfl⟩ <;> rfl) (by kernel_rfl) (Nat.le_of_ble_eq_true rfl) rfl (by kernel_rfl) ?_
    clear H; intro _ _ H; dsimp only [setL, delL] at H
    refine RW.nil ?_
    refine ⟨rfl, _, _, _, 10, H, rfl, ?_⟩
    clear H; intro _ lq58 hq59 H
    dsimp only [setL, delL] at H
    refine W.rg [(1, .pointer (some ⟨b6, 0, none⟩)), (4, .pointer (some ⟨b8, 0, none⟩)), (5, .pointer (some ⟨b5, 0, none⟩)), (6, .pointer (some ⟨b14, 0, none⟩)), (7, .pointer (some ⟨b18, 0, none⟩)), (8, .pointer (some ⟨b19, 0, none⟩)), (9, .pointer (some ⟨b57, 0, none⟩)), (14, .func (.func 65) #[] #[.pointer (some ⟨b20, 0, none⟩), .pointer (some ⟨b21, 0, none⟩)]), (15, .agg #[uv, .int .i64 ps, .bool fd])] fun TA => ?_
    refine W.block ?_
    refine W.block ?_
    refine W.seq (W.region ?_)
    refine RW.v ?_
    refine RW.ld H 0 1 ?_
    refine RW.v ?_
    refine RW.nil ?_
    refine W.rg [(1, .pointer (some ⟨b6, 0, none⟩)), (4, .pointer (some ⟨b8, 0, none⟩)), (5, .pointer (some ⟨b5, 0, none⟩)), (6, .pointer (some ⟨b14, 0, none⟩)), (7, .pointer (some ⟨b18, 0, none⟩)), (8, .pointer (some ⟨b19, 0, none⟩)), (9, .pointer (some ⟨b57, 0, none⟩)), (14, .func (.func 65) #[] #[.pointer (some ⟨b20, 0, none⟩), .pointer (some ⟨b21, 0, none⟩)]), (15, .agg #[uv, .int .i64 ps, .bool fd]), (18, .bool fd)] fun TA => ?_
    refine W.cond rfl (fun hc60 => ?_) (fun hc60 => ?_)
    ·have hc60b := hc60
     rw [hc60b] at hT
     refine W.join (fun ta σ => ∃ (s2 : Fil), (s2 = if ov = true then s else endF s ps) ∧ (s2.Ok wd) ∧ Lies G A F σ (.at_ b47 (.row ⟨[uv, .int .i64 ps, .bool fd], 96, false⟩) :: .at_ it42 (.iter ⟨(l.getD i default).s.toArray⟩ p2) :: .at_ b41 (.row ⟨[.int .i64 ((l.getD i default).k), .int .i64 ((l.getD i default).p), .int .i64 ((l.getD i default).t), .string ⟨((l.getD i default).s).toArray⟩, .int .i64 ((l.getD i default).b), .int .i64 ((l.getD i default).c), .bool ((l.getD i default).d), .bool ((l.getD i default).e), .bool ((l.getD i default).f)], 52, false⟩) :: .sl 39 5 u R.length (rowsV (csB wd B) (psB wd B) (tosX R to_)) :: .at_ b31 lq44 :: .at_ d30 (.defs true) :: .at_ b29 (.row ⟨[v1], 22, false⟩) :: .at_ b28 (.row ⟨[.int .i64 ((cn : Nat) : Int)], 3, false⟩) :: .at_ b27 (.row ⟨[.func (.yield b23) #[] #[]], 100, false⟩) :: .at_ b23 lq58 :: .at_ d22 (.defs true) :: .at_ b21 (.row ⟨[.int .i64 ((tab : Nat) : Int)], 3, false⟩) :: .at_ b20 (.row ⟨[v1], 22, false⟩) :: .at_ b19 (.row ⟨[.bool ov], 4, false⟩) :: .at_ b18 (.row ⟨[.pointer (some ⟨q, 0, none⟩)], 90, false⟩) :: .at_ q (.row ⟨[.slice (some ⟨bc, 0, none⟩) wd wd, .slice (some ⟨bp, 0, none⟩) wd wd, .int .i64 s2.fr, .int .i64 0, .bool s2.co, .int .i64 ((s2.n : Nat) : Int)], 99, false⟩) :: .at_ bc (.row ⟨cC s2.C, 79, false⟩) :: .at_ bp (.row ⟨s2.P.map (Value.int .i64), 3, false⟩) :: .at_ b14 (.row ⟨[.func (.yield b10) #[] #[]], 89, false⟩) :: .at_ b10 lp11 :: .at_ d9 (.defs true) :: .at_ b8 (.row ⟨[.bool wrap], 4, false⟩) :: .at_ b7 (.row ⟨[.int .i64 ((tab : Nat) : Int)], 3, false⟩) :: .at_ b6 (.row ⟨[.int .i64 ((wd : Nat) : Int)], 3, false⟩) :: .at_ b5 (.row ⟨[.int .i64 to_], 3, false⟩) :: .at_ b4 (.row ⟨[v1], 22, false⟩) :: .at_ b3 (.row ⟨[u], 27, false⟩) :: .at_ b2 (.row ⟨[.int .i64 ((most : Nat) : Int)], 3, false⟩) :: .at_ b1 (.row ⟨[.int .i64 to_], 3, false⟩) :: ((REs B R ++ L))) ∧ ta 1 = .pointer (some ⟨b6, 0, none⟩) ∧ ta 6 = .pointer (some ⟨b14, 0, none⟩) ∧ ta 7 = .pointer (some ⟨b18, 0, none⟩) ∧ ta 8 = .pointer (some ⟨b19, 0, none⟩)) ?_ ?_
     ·refine W.seq (W.region ?_)
      refine RW.ld H 14 1 ?_
      refine RW.v ?_
      refine RW.nil ?_
      refine W.rg [(1, .pointer (some ⟨b6, 0, none⟩)), (4, .pointer (some ⟨b8, 0, none⟩)), (5, .pointer (some ⟨b5, 0, none⟩)), (6, .pointer (some ⟨b14, 0, none⟩)), (7, .pointer (some ⟨b18, 0, none⟩)), (8, .pointer (some ⟨b19, 0, none⟩)), (9, .pointer (some ⟨b57, 0, none⟩)), (14, .func (.func 65) #[] #[.pointer (some ⟨b20, 0, none⟩), .pointer (some ⟨b21, 0, none⟩)]), (15, .agg #[uv, .int .i64 ps, .bool fd]), (22, .bool (!ov))] fun TA => ?_
      refine W.cond rfl (fun hc61 => ?_) (fun hc61 => ?_)
      ·have hc61b := hc61
       refine W.region ?_
       refine RW.ld H 15 1 ?_
       refine RW.v ?_
       refine RW.ld H 0 1 ?_
       replace H := H.front 18 rfl
       dsimp only [delL] at H
       replace H := H.front 18 rfl
       dsimp only [delL] at H
       replace H := H.front 18 rfl
       dsimp only [delL] at H
       refine RW.cl ?_
       refine ((end_wc (pos := ps) ok (by omega) (show Lies G A F _ (FE q bc bp wd s ++ (.at_ b57 (.row ⟨[uv, .int .i64 ps, .bool fd], 96, false⟩) :: .at_ b47 (.row ⟨[uv, .int .i64 ps, .bool fd], 96, false⟩) :: .at_ it42 (.iter ⟨(l.getD i default).s.toArray⟩ p2) :: .at_ b41 (.row ⟨[.int .i64 ((l.getD i default).k), .int .i64 ((l.getD i default).p), .int .i64 ((l.getD i default).t), .string ⟨((l.getD i default).s).toArray⟩, .int .i64 ((l.getD i default).b), .int .i64 ((l.getD i default).c), .bool ((l.getD i default).d), .bool ((l.getD i default).e), .bool ((l.getD i default).f)], 52, false⟩) :: .sl 39 5 u R.length (rowsV (csB wd B) (psB wd B) (tosX R to_)) :: .at_ b31 lq44 :: .at_ d30 (.defs true) :: .at_ b29 (.row ⟨[v1], 22, false⟩) :: .at_ b28 (.row ⟨[.int .i64 ((cn : Nat) : Int)], 3, false⟩) :: .at_ b27 (.row ⟨[.func (.yield b23) #[] #[]], 100, false⟩) :: .at_ b23 lq58 :: .at_ d22 (.defs true) :: .at_ b21 (.row ⟨[.int .i64 ((tab : Nat) : Int)], 3, false⟩) :: .at_ b20 (.row ⟨[v1], 22, false⟩) :: .at_ b19 (.row ⟨[.bool ov], 4, false⟩) :: .at_ b18 (.row ⟨[.pointer (some ⟨q, 0, none⟩)], 90, false⟩) :: .at_ b14 (.row ⟨[.func (.yield b10) #[] #[]], 89, false⟩) :: .at_ b10 lp11 :: .at_ d9 (.defs true) :: .at_ b8 (.row ⟨[.bool wrap], 4, false⟩) :: .at_ b7 (.row ⟨[.int .i64 ((tab : Nat) : Int)], 3, false⟩) :: .at_ b6 (.row ⟨[.int .i64 ((wd : Nat) : Int)], 3, false⟩) :: .at_ b5 (.row ⟨[.int .i64 to_], 3, false⟩) :: .at_ b4 (.row ⟨[v1], 22, false⟩) :: .at_ b3 (.row ⟨[u], 27, false⟩) :: .at_ b2 (.row ⟨[.int .i64 ((most : Nat) : Int)], 3, false⟩) :: .at_ b1 (.row ⟨[.int .i64 to_], 3, false⟩) :: ((REs B R ++ L)))) from H)).mono ?_)
       clear H
       intro _ _ H
       replace H : Lies G A F _ (.at_ q (.row ⟨[.slice (some ⟨bc, 0, none⟩) wd wd, .slice (some ⟨bp, 0, none⟩) wd wd, .int .i64 ((endF s ps).fr), .int .i64 0, .bool ((endF s ps).co), .int .i64 (((endF s ps).n : Nat) : Int)], 99, false⟩) :: .at_ bc (.row ⟨cC (endF s ps).C, 79, false⟩) :: .at_ bp (.row ⟨(endF s ps).P.map (Value.int .i64), 3, false⟩) :: .at_ b57 (.row ⟨[uv, .int .i64 ps, .bool fd], 96, false⟩) :: .at_ b47 (.row ⟨[uv, .int .i64 ps, .bool fd], 96, false⟩) :: .at_ it42 (.iter ⟨(l.getD i default).s.toArray⟩ p2) :: .at_ b41 (.row ⟨[.int .i64 ((l.getD i default).k), .int .i64 ((l.getD i default).p), .int .i64 ((l.getD i default).t), .string ⟨((l.getD i default).s).toArray⟩, .int .i64 ((l.getD i default).b), .int .i64 ((l.getD i default).c), .bool ((l.getD i default).d), .bool ((l.getD i default).e), .bool ((l.getD i default).f)], 52, false⟩) :: .sl 39 5 u R.length (rowsV (csB wd B) (psB wd B) (tosX R to_)) :: .at_ b31 lq44 :: .at_ d30 (.defs true) :: .at_ b29 (.row ⟨[v1], 22, false⟩) :: .at_ b28 (.row ⟨[.int .i64 ((cn : Nat) : Int)], 3, false⟩) :: .at_ b27 (.row ⟨[.func (.yield b23) #[] #[]], 100, false⟩) :: .at_ b23 lq58 :: .at_ d22 (.defs true) :: .at_ b21 (.row ⟨[.int .i64 ((tab : Nat) : Int)], 3, false⟩) :: .at_ b20 (.row ⟨[v1], 22, false⟩) :: .at_ b19 (.row ⟨[.bool ov], 4, false⟩) :: .at_ b18 (.row ⟨[.pointer (some ⟨q, 0, none⟩)], 90, false⟩) :: .at_ b14 (.row ⟨[.func (.yield b10) #[] #[]], 89, false⟩) :: .at_ b10 lp11 :: .at_ d9 (.defs true) :: .at_ b8 (.row ⟨[.bool wrap], 4, false⟩) :: .at_ b7 (.row ⟨[.int .i64 ((tab : Nat) : Int)], 3, false⟩) :: .at_ b6 (.row ⟨[.int .i64 ((wd : Nat) : Int)], 3, false⟩) :: .at_ b5 (.row ⟨[.int .i64 to_], 3, false⟩) :: .at_ b4 (.row ⟨[v1], 22, false⟩) :: .at_ b3 (.row ⟨[u], 27, false⟩) :: .at_ b2 (.row ⟨[.int .i64 ((most : Nat) : Int)], 3, false⟩) :: .at_ b1 (.row ⟨[.int .i64 to_], 3, false⟩) :: ((REs B R ++ L))) := H
       refine RW.nil ?_
       replace H := (H.del 3)
       dsimp only [setL, delL] at H
       replace H := H.front 28 rfl
       dsimp only [delL] at H
       replace H := H.front 28 rfl
       dsimp only [delL] at H
       replace H := H.front 28 rfl
       dsimp only [delL] at H
       replace H := H.front 28 rfl
       dsimp only [delL] at H
       replace H := H.front 28 rfl
       dsimp only [delL] at H
       replace H := H.front 28 rfl
       dsimp only [delL] at H
       replace H := H.front 28 rfl
       dsimp only [delL] at H
       replace H := H.front 28 rfl
       dsimp only [delL] at H
       replace H := H.front 28 rfl
       dsimp only [delL] at H
       replace H := H.front 28 rfl
       dsimp only [delL] at H
       replace H := H.front 28 rfl
       dsimp only [delL] at H
       replace H := H.front 13 rfl
       dsimp only [delL] at H
       replace H := H.front 13 rfl
       dsimp only [delL] at H
       replace H := H.front 13 rfl
       dsimp only [delL] at H
       replace H := H.front 28 rfl
       dsimp only [delL] at H
       replace H := H.front 28 rfl
       dsimp only [delL] at H
       replace H := H.front 28 rfl
       dsimp only [delL] at H
       replace H := H.front 28 rfl
       dsimp only [delL] at H
       replace H := H.front 28 rfl
       dsimp only [delL] at H
       replace H := H.front 28 rfl
       dsimp only [delL] at H
       replace H := H.front 28 rfl
       dsimp only [delL] at H
       replace H := H.front 28 rfl
       dsimp only [delL] at H
       replace H := H.front 28 rfl
       dsimp only [delL] at H
       replace H := H.front 28 rfl
       dsimp only [delL] at H
       replace H := H.front 28 rfl
       dsimp only [delL] at H
       replace H := H.front 28 rfl
       dsimp only [delL] at H
       replace H := H.front 28 rfl
       dsimp only [delL] at H
       replace H := H.front 28 rfl
       dsimp only [delL] at H
       replace H := H.front 28 rfl
       dsimp only [delL] at H
       exact ⟨rfl, rfl, (endF s ps), (by rw [if_neg (by simpa using hc61b)]), (ok_end ok), H, rfl, rfl, rfl, rfl⟩
      ·have hc61b := hc61
       refine W.skip ?_
       replace H := (H.del 0)
       dsimp only [delL] at H
       exact ⟨rfl, rfl, s, (by rw [if_pos (by simpa using hc61b)]), ok, H, rfl, rfl, rfl, rfl⟩
     clear H
     rintro ta _ ⟨s2, hs2, ok2, H, e1, e6, e7, e8⟩
     refine W.rst [(1, .pointer (some ⟨b6, 0, none⟩)), (6, .pointer (some ⟨b14, 0, none⟩)), (7, .pointer (some ⟨b18, 0, none⟩)), (8, .pointer (some ⟨b19, 0, none⟩))] ⟨e1, e6, e7, e8, trivial⟩ fun TA => ?_
     clear e1 e6 e7 e8
     refine W.seq ?_
     refine W.seq ?_
     refine W.drawn (by kernel_rfl) (by kernel_rfl) H.gn ?_
     have H62 := H
     refine RW.ld H62 18 1 ?_
     refine RW.ld H62 14 1 ?_
     iterate 2 refine RW.v ?_
     refine RW.ld H62 15 5 ?_
     have H := H62
     refine RW.yieldLD H 19 rfl hl12 (by kernel_rfl) (by kernel_rfl) rfl rfl rfl rfl rfl (by kernel_rfl) ?_
     refine W.rg [(9, .pointer (some ⟨b1, 0, none⟩)), (13, .pointer (some ⟨b2, 0, none⟩)), (17, .pointer (some ⟨b3, 0, none⟩)), (54, .func (.func 50) #[] #[.pointer (some ⟨b6, 0, none⟩), .pointer (some ⟨b4, 0, none⟩), .pointer (some ⟨b7, 0, none⟩), .pointer (some ⟨b8, 0, none⟩), .pointer (some ⟨b5, 0, none⟩)]), (55, .agg #[.slice (some ⟨bc, 0, none⟩) wd wd, .slice (some ⟨bp, 0, none⟩) wd wd, .int .i64 s2.fr, .int .i64 0, .bool s2.co])] fun TA => ?_
     refine W.region ?_
     refine RW.mk H (.row ⟨[.slice none 0 0, .slice none 0 0, .int .i64 0, .int .i64 0, .bool false], 39, false⟩) ?_
     clear H; intro _ b63 _ H
     refine RW.st H 0 [.slice (some ⟨bc, 0, none⟩) wd wd, .slice (some ⟨bp, 0, none⟩) wd wd, .int .i64 s2.fr, .int .i64 0, .bool s2.co] [.slice (some ⟨bc, 0, none⟩) wd wd, .slice (some ⟨bp, 0, none⟩) wd wd, .int .i64 s2.fr, .int .i64 0, .bool s2.co] ?_
     clear H; intro _ _ H; dsimp only [setL, delL] at H
     refine RW.nil ?_
     refine ⟨rfl, _, _, _, 20, H, rfl, ?_⟩
     clear H; intro _ lq64 hq65 H
     dsimp only [setL, delL] at H
     refine W.rg [(9, .pointer (some ⟨b1, 0, none⟩)), (13, .pointer (some ⟨b2, 0, none⟩)), (17, .pointer (some ⟨b3, 0, none⟩)), (18, .pointer (some ⟨b63, 0, none⟩)), (54, .func (.func 50) #[] #[.pointer (some ⟨b6, 0, none⟩), .pointer (some ⟨b4, 0, none⟩), .pointer (some ⟨b7, 0, none⟩), .pointer (some ⟨b8, 0, none⟩), .pointer (some ⟨b5, 0, none⟩)]), (55, .agg #[.slice (some ⟨bc, 0, none⟩) wd wd, .slice (some ⟨bp, 0, none⟩) wd wd, .int .i64 s2.fr, .int .i64 0, .bool s2.co])] fun TA => ?_
     refine W.block ?_
     refine W.seq (W.region ?_)
     refine RW.ld H 27 1 ?_
     refine RW.len (by kernel_rfl) (by kernel_rfl) rfl rfl rfl rfl ((H.sl 4 rfl).len (by kernel_rfl)) (by kernel_rfl) ?_
     refine RW.v ?_
     refine RW.nil ?_
     refine W.rg [(9, .pointer (some ⟨b1, 0, none⟩)), (13, .pointer (some ⟨b2, 0, none⟩)), (17, .pointer (some ⟨b3, 0, none⟩)), (18, .pointer (some ⟨b63, 0, none⟩)), (19, .int .i64 ((R.length : Nat) : Int)), (54, .func (.func 50) #[] #[.pointer (some ⟨b6, 0, none⟩), .pointer (some ⟨b4, 0, none⟩), .pointer (some ⟨b7, 0, none⟩), .pointer (some ⟨b8, 0, none⟩), .pointer (some ⟨b5, 0, none⟩)]), (55, .agg #[.slice (some ⟨bc, 0, none⟩) wd wd, .slice (some ⟨bp, 0, none⟩) wd wd, .int .i64 s2.fr, .int .i64 0, .bool s2.co])] fun TA => ?_
     refine W.join (fun ta σ => ∃ (z0 : Unit), Lies G A F σ (.at_ b63 (.row ⟨[.slice (some ⟨bc, 0, none⟩) wd wd, .slice (some ⟨bp, 0, none⟩) wd wd, .int .i64 s2.fr, .int .i64 0, .bool s2.co], 39, false⟩) :: .at_ b47 (.row ⟨[uv, .int .i64 ps, .bool fd], 96, false⟩) :: .at_ it42 (.iter ⟨(l.getD i default).s.toArray⟩ p2) :: .at_ b41 (.row ⟨[.int .i64 ((l.getD i default).k), .int .i64 ((l.getD i default).p), .int .i64 ((l.getD i default).t), .string ⟨((l.getD i default).s).toArray⟩, .int .i64 ((l.getD i default).b), .int .i64 ((l.getD i default).c), .bool ((l.getD i default).d), .bool ((l.getD i default).e), .bool ((l.getD i default).f)], 52, false⟩) :: .sl 39 5 u R.length (rowsV (csB wd B) (psB wd B) (tosX R s2.fr)) :: .at_ b31 lq44 :: .at_ d30 (.defs true) :: .at_ b29 (.row ⟨[v1], 22, false⟩) :: .at_ b28 (.row ⟨[.int .i64 ((cn : Nat) : Int)], 3, false⟩) :: .at_ b27 (.row ⟨[.func (.yield b23) #[] #[]], 100, false⟩) :: .at_ b23 lq58 :: .at_ d22 (.defs true) :: .at_ b21 (.row ⟨[.int .i64 ((tab : Nat) : Int)], 3, false⟩) :: .at_ b20 (.row ⟨[v1], 22, false⟩) :: .at_ b19 (.row ⟨[.bool ov], 4, false⟩) :: .at_ b18 (.row ⟨[.pointer (some ⟨q, 0, none⟩)], 90, false⟩) :: .at_ q (.row ⟨[.slice (some ⟨bc, 0, none⟩) wd wd, .slice (some ⟨bp, 0, none⟩) wd wd, .int .i64 s2.fr, .int .i64 0, .bool s2.co, .int .i64 ((s2.n : Nat) : Int)], 99, false⟩) :: .at_ bc (.row ⟨cC s2.C, 79, false⟩) :: .at_ bp (.row ⟨s2.P.map (Value.int .i64), 3, false⟩) :: .at_ b14 (.row ⟨[.func (.yield b10) #[] #[]], 89, false⟩) :: .at_ b10 lq64 :: .at_ d9 (.defs true) :: .at_ b8 (.row ⟨[.bool wrap], 4, false⟩) :: .at_ b7 (.row ⟨[.int .i64 ((tab : Nat) : Int)], 3, false⟩) :: .at_ b6 (.row ⟨[.int .i64 ((wd : Nat) : Int)], 3, false⟩) :: .at_ b5 (.row ⟨[.int .i64 to_], 3, false⟩) :: .at_ b4 (.row ⟨[v1], 22, false⟩) :: .at_ b3 (.row ⟨[u], 27, false⟩) :: .at_ b2 (.row ⟨[.int .i64 ((most : Nat) : Int)], 3, false⟩) :: .at_ b1 (.row ⟨[.int .i64 to_], 3, false⟩) :: ((REs B R ++ L))) ∧ ta 9 = .pointer (some ⟨b1, 0, none⟩) ∧ ta 13 = .pointer (some ⟨b2, 0, none⟩) ∧ ta 17 = .pointer (some ⟨b3, 0, none⟩) ∧ ta 18 = .pointer (some ⟨b63, 0, none⟩) ∧ ta 19 = .int .i64 ((R.length : Nat) : Int)) ?_ ?_
     ·refine W.seq (W.region ?_)
      iterate 2 refine RW.v ?_
      refine RW.nil ?_
      refine W.rg [(9, .pointer (some ⟨b1, 0, none⟩)), (13, .pointer (some ⟨b2, 0, none⟩)), (17, .pointer (some ⟨b3, 0, none⟩)), (18, .pointer (some ⟨b63, 0, none⟩)), (19, .int .i64 ((R.length : Nat) : Int)), (54, .func (.func 50) #[] #[.pointer (some ⟨b6, 0, none⟩), .pointer (some ⟨b4, 0, none⟩), .pointer (some ⟨b7, 0, none⟩), .pointer (some ⟨b8, 0, none⟩), .pointer (some ⟨b5, 0, none⟩)]), (55, .agg #[.slice (some ⟨bc, 0, none⟩) wd wd, .slice (some ⟨bp, 0, none⟩) wd wd, .int .i64 s2.fr, .int .i64 0, .bool s2.co]), (59, .bool (decide (((R.length : Nat) : Int) > 0)))] fun TA => ?_
      refine W.cond rfl (fun hc66 => ?_) (fun hc66 => ?_)
      ·have hc66b := hc66
       have hc66 := of_decide_eq_true hc66
       refine W.region ?_
       refine RW.ld H 27 1 ?_
       refine RW.v ?_
       refine RW.valE (v' := .int .i64 (((R.length : Nat) : Int) - 1)) (by kernel_rfl) (by kernel_rfl) rfl (congrArg (Value.int .i64) (wrap_in (by omega) (by omega))) (by kernel_rfl) ?_
       refine RW.v ?_
       refine RW.ld H 0 1 ?_
       refine RW.idxGS H 4 rfl (by kernel_rfl) (by kernel_rfl) rfl Tryd.underlying27 (by kernel_rfl) rfl rfl ⟨by omega, by omega⟩ (by kernel_rfl) ?_
       intro b67 q68 hb69 hq70
       refine RW.v ?_
       refine RW.stG H 4 rfl hb69 (vs := [.int .i64 s2.fr]) (by show q68 + 3 + 1 ≤ R.length * 5; omega) (by kernel_rfl) (by kernel_rfl) rfl rfl rfl rfl (by kernel_rfl) (by kernel_rfl) ?_
       clear H; intro _ H
       dsimp only [setL, delL] at H
       replace H : Lies G A F _ (.at_ b63 (.row ⟨[.slice (some ⟨bc, 0, none⟩) wd wd, .slice (some ⟨bp, 0, none⟩) wd wd, .int .i64 s2.fr, .int .i64 0, .bool s2.co], 39, false⟩) :: .at_ b47 (.row ⟨[uv, .int .i64 ps, .bool fd], 96, false⟩) :: .at_ it42 (.iter ⟨(l.getD i default).s.toArray⟩ p2) :: .at_ b41 (.row ⟨[.int .i64 ((l.getD i default).k), .int .i64 ((l.getD i default).p), .int .i64 ((l.getD i default).t), .string ⟨((l.getD i default).s).toArray⟩, .int .i64 ((l.getD i default).b), .int .i64 ((l.getD i default).c), .bool ((l.getD i default).d), .bool ((l.getD i default).e), .bool ((l.getD i default).f)], 52, false⟩) :: .sl 39 5 u R.length (overL (rowsV (csB wd B) (psB wd B) (tosX R to_)) (q68 + 3) [.int .i64 s2.fr]) :: .at_ b31 lq44 :: .at_ d30 (.defs true) :: .at_ b29 (.row ⟨[v1], 22, false⟩) :: .at_ b28 (.row ⟨[.int .i64 ((cn : Nat) : Int)], 3, false⟩) :: .at_ b27 (.row ⟨[.func (.yield b23) #[] #[]], 100, false⟩) :: .at_ b23 lq58 :: .at_ d22 (.defs true) :: .at_ b21 (.row ⟨[.int .i64 ((tab : Nat) : Int)], 3, false⟩) :: .at_ b20 (.row ⟨[v1], 22, false⟩) :: .at_ b19 (.row ⟨[.bool ov], 4, false⟩) :: .at_ b18 (.row ⟨[.pointer (some ⟨q, 0, none⟩)], 90, false⟩) :: .at_ q (.row ⟨[.slice (some ⟨bc, 0, none⟩) wd wd, .slice (some ⟨bp, 0, none⟩) wd wd, .int .i64 s2.fr, .int .i64 0, .bool s2.co, .int .i64 ((s2.n : Nat) : Int)], 99, false⟩) :: .at_ bc (.row ⟨cC s2.C, 79, false⟩) :: .at_ bp (.row ⟨s2.P.map (Value.int .i64), 3, false⟩) :: .at_ b14 (.row ⟨[.func (.yield b10) #[] #[]], 89, false⟩) :: .at_ b10 lq64 :: .at_ d9 (.defs true) :: .at_ b8 (.row ⟨[.bool wrap], 4, false⟩) :: .at_ b7 (.row ⟨[.int .i64 ((tab : Nat) : Int)], 3, false⟩) :: .at_ b6 (.row ⟨[.int .i64 ((wd : Nat) : Int)], 3, false⟩) :: .at_ b5 (.row ⟨[.int .i64 to_], 3, false⟩) :: .at_ b4 (.row ⟨[v1], 22, false⟩) :: .at_ b3 (.row ⟨[u], 27, false⟩) :: .at_ b2 (.row ⟨[.int .i64 ((most : Nat) : Int)], 3, false⟩) :: .at_ b1 (.row ⟨[.int .i64 to_], 3, false⟩) :: ((REs B R ++ L))) := H
       rw [show overL (rowsV (csB wd B) (psB wd B) (tosX R to_)) (q68 + 3) [.int .i64 s2.fr] = rowsV (csB wd B) (psB wd B) (tosX R s2.fr) by rw [hq70, show (((R.length : Nat) : Int) - 1).toNat * 5 + 3 = (R.length - 1) * 5 + 3 by omega]; exact rows_set hB (by omega)] at H
       refine RW.nil ?_
       exact ⟨rfl, rfl, (), H, rfl, rfl, rfl, rfl, rfl⟩
      ·have hc66b := hc66
       have hc66 := of_decide_eq_false hc66
       refine W.skip ?_
       have hR0 : R = [] := List.eq_nil_of_length_eq_zero (by omega)
       rw [show tosX R to_ = tosX R s2.fr by rw [hR0]; rfl] at H
       exact ⟨rfl, rfl, (), H, rfl, rfl, rfl, rfl, rfl⟩
     clear H
     rintro ta _ ⟨z0, H, e9, e13, e17, e18, e19⟩
     refine W.rst [(9, .pointer (some ⟨b1, 0, none⟩)), (13, .pointer (some ⟨b2, 0, none⟩)), (17, .pointer (some ⟨b3, 0, none⟩)), (18, .pointer (some ⟨b63, 0, none⟩)), (19, .int .i64 ((R.length : Nat) : Int))] ⟨e9, e13, e17, e18, e19, trivial⟩ fun TA => ?_
     clear e9 e13 e17 e18 e19
     refine W.seq ?_
     refine W.seq (W.region ?_)
     refine RW.v ?_
     refine RW.ld H 28 1 ?_
     refine RW.v ?_
     refine RW.nil ?_
     refine W.rg [(9, .pointer (some ⟨b1, 0, none⟩)), (13, .pointer (some ⟨b2, 0, none⟩)), (17, .pointer (some ⟨b3, 0, none⟩)), (18, .pointer (some ⟨b63, 0, none⟩)), (69, .bool (((R.length : Nat) : Int) == ((most : Nat) : Int)))] fun TA => ?_
     refine W.cond rfl (fun hc71 => ?_) (fun hc71 => ?_)
     ·have hc71b := hc71
      have hc71 := eq_of_beq hc71
      have hne : R.length = most := by omega
      rw [stop_feed hne, ← hs2] at hT
      refine W.exit _ ?_
      refine seqQ_exit ?_
      refine blkQ_out rfl ?_
      refine ⟨_, _, _, 20, false, .done, (some (.exit 0)), H, rfl, rfl, ?_⟩
      clear H; intro _ lr72 hr73 H
      dsimp only [setL, delL] at H
      have H74 := H
      refine RW.v ?_
      refine RW.nil ?_
      refine ⟨⟨by kernel_rfl, ⟨dyn_row (H62.get 18 rfl) (H74.get 19 rfl) ⟨nB, nB, nB, nB, nB, fun _ => H62.get 18 rfl, nB, trivial⟩, dyn_row (H62.get 14 rfl) (H74.get 15 rfl) ⟨nB, nB, nB, nB, nB, fun _ => H62.get 14 rfl, nB, trivial⟩, trivial, trivial, dyn_row (H62.get 15 rfl) (H74.get 16 rfl) ⟨nB, nB, nB, nB, nB, fun _ => H62.get 15 rfl, nB, trivial⟩, trivial, trivial, trivial⟩⟩, ?_⟩
      replace H := H74
      clear H62 H74
      replace H := (H.del 0)
      dsimp only [setL, delL] at H
      refine W.c1 ?_
      refine W.ret ?_
      refine seqQ_ret ?_
      refine blkQ_ret ?_
      refine blkQ_ret ?_
      refine ⟨_, _, _, 9, false, .done, (some .ret), H, rfl, rfl, ?_⟩
      clear H; intro _ lr75 _ hr76 H
      dsimp only [setL, delL] at H
      refine RW.v ?_
      refine RW.nil ?_
      refine W.c1 ?_
      refine W.ret ?_
      refine blkQ_ret ?_
      refine seqQ_ret ?_
      refine rndQ_ret ?_
      refine blkQ_ret ?_
      refine seqQ_ret ?_
      refine blkQ_ret ?_
      refine ⟨_, _, _, 4, false, .done, (some .ret), H, rfl, rfl, ?_⟩
      clear H; intro _ lr77 _ hr78 H
      dsimp only [setL, delL] at H
      refine RW.v ?_
      refine RW.nil ?_
      replace H := (H.del 0)
      dsimp only [setL, delL] at H
      refine W.c1 ?_
      refine W.ret ?_
      refine seqQ_ret ?_
      refine blkQ_ret ?_
      refine rndQ_ret ?_
      refine blkQ_ret ?_
      refine blkQ_ret ?_
      refine seqQ_ret ?_
      refine rndQ_ret ?_
      refine blkQ_ret ?_
      refine endG (by rfl) (by exact rfl) ?_
      refine ⟨_, _, _, 3, _, _, _, _, H, rfl, hr78, rfl, rfl, ?_⟩
      clear H; intro _ H
      dsimp only [setL, delL] at H
      refine blkQ_ret ?_
      refine endMark H 3 rfl fun _ H => ?_
      dsimp only [setL, delL] at H
      refine endGD0 (by rfl) (by exact rfl) ?_
      refine ⟨_, _, _, 6, _, _, _, _, H, rfl, hr76, rfl, rfl, ?_⟩
      clear H; intro _ H
      dsimp only [setL, delL] at H
      refine blkQ_ret ?_
      refine seqQ_ret ?_
      refine endMark H 6 rfl fun _ H => ?_
      dsimp only [setL, delL] at H
      refine endGD0 (by rfl) (by exact rfl) ?_
      refine ⟨_, _, _, 14, _, _, _, _, H, rfl, hr73, rfl, rfl, ?_⟩
      clear H; intro _ H
      dsimp only [setL, delL] at H
      refine blkQ_here ?_
      refine W.seq (W.region ?_)
      refine RW.ld H 20 1 ?_
      iterate 2 refine RW.v ?_
      refine RW.nil ?_
      replace H := (((((((((((((((((((((H.del 22).del 21).del 20).del 19).del 18).del 17).del 16).del 15).del 13).del 12).del 11).del 10).del 9).del 8).del 7).del 6).del 5).del 4).del 3).del 1).del 0)
      dsimp only [setL, delL] at H
      refine W.ret ?_
      refine ⟨rfl, ?_⟩
      refine endMark H 1 rfl fun _ H => ?_
      dsimp only [setL, delL] at H
      refine endGD0 (by rfl) (by exact resL_tmp (by exact resL_tmp rfl)) ?_
      subst hT
      exact ⟨F, u, B, le0, rfl, hB, H⟩
     ·have hc71b := hc71
      have hc71 := ne_of_beq_false hc71
      have hne : R.length ≠ most := by omega
      rw [go_feed hne, ← hs2] at hT
      refine W.skip ?_
      refine W.seq (W.region ?_)
      refine RW.ld H 29 1 ?_
      refine RW.v ?_
      refine RW.st H 0 [.int .i64 to_] [.slice (some ⟨bc, 0, none⟩) wd wd, .slice (some ⟨bp, 0, none⟩) wd wd, .int .i64 s2.fr, .int .i64 to_, .bool s2.co] ?_
      clear H; intro _ _ H; dsimp only [setL, delL] at H
      refine RW.nil ?_
      refine W.rg [(9, .pointer (some ⟨b1, 0, none⟩)), (13, .pointer (some ⟨b2, 0, none⟩)), (17, .pointer (some ⟨b3, 0, none⟩)), (18, .pointer (some ⟨b63, 0, none⟩))] fun TA => ?_
      refine W.region ?_
      refine RW.ld H 27 1 ?_
      refine RW.ld H 0 5 ?_
      refine RW.mkL H (x := .row ⟨[.slice (some ⟨bc, 0, none⟩) wd wd, .slice (some ⟨bp, 0, none⟩) wd wd, .int .i64 s2.fr, .int .i64 to_, .bool s2.co], 39, false⟩) (fm := fun b => .slice (some ⟨b, 0, none⟩) 1 1) (by kernel_rfl) (by kernel_rfl) (by kernel_rfl) (by kernel_rfl) ?_
      clear H; intro _ b79 _ H
      refine RW.appLB H 5 0 (n := 1) (e2 := 39) (by kernel_rfl) (by kernel_rfl) rfl rfl rfl rfl rfl rfl rfl (.inl rfl) rfl (by kernel_rfl) (by kernel_rfl) (by kernel_rfl) (by decide) (by decide) rfl rfl (by omega) (by kernel_rfl) ?_
      clear H; intro _ v80 H
      dsimp only [setL, delL] at H
      refine RW.stL H 27 (vs := [v80]) (cs' := [v80]) (by kernel_rfl) (by kernel_rfl) rfl rfl rfl (H.sl 4 rfl).one (gr_all (H.sl 4 rfl)) (by kernel_rfl) (Nat.le_of_ble_eq_true rfl) rfl (by kernel_rfl) ?_
      clear H; intro _ _ H; dsimp only [setL, delL] at H
      replace H := H.front 18 rfl
      dsimp only [delL] at H
      replace H := H.front 18 rfl
      dsimp only [delL] at H
      replace H := RE_push (X := [.at_ b63 (.row ⟨[.slice (some ⟨bc, 0, none⟩) wd wd, .slice (some ⟨bp, 0, none⟩) wd wd, .int .i64 s2.fr, .int .i64 to_, .bool s2.co], 39, false⟩), .at_ b47 (.row ⟨[uv, .int .i64 ps, .bool fd], 96, false⟩), .at_ it42 (.iter ⟨(l.getD i default).s.toArray⟩ p2), .at_ b41 (.row ⟨[.int .i64 ((l.getD i default).k), .int .i64 ((l.getD i default).p), .int .i64 ((l.getD i default).t), .string ⟨((l.getD i default).s).toArray⟩, .int .i64 ((l.getD i default).b), .int .i64 ((l.getD i default).c), .bool ((l.getD i default).d), .bool ((l.getD i default).e), .bool ((l.getD i default).f)], 52, false⟩), .sl 39 5 v80 (R.length + 1) (rowsV (csB wd B) (psB wd B) (tosX R s2.fr) ++ [.slice (some ⟨bc, 0, none⟩) wd wd, .slice (some ⟨bp, 0, none⟩) wd wd, .int .i64 s2.fr, .int .i64 to_, .bool s2.co]), .at_ b31 lq44, .at_ d30 (.defs true), .at_ b29 (.row ⟨[v1], 22, false⟩), .at_ b28 (.row ⟨[.int .i64 ((cn : Nat) : Int)], 3, false⟩), .at_ b27 (.row ⟨[.func (.yield b23) #[] #[]], 100, false⟩), .at_ b23 lq58, .at_ d22 (.defs true), .at_ b21 (.row ⟨[.int .i64 ((tab : Nat) : Int)], 3, false⟩), .at_ b20 (.row ⟨[v1], 22, false⟩), .at_ b19 (.row ⟨[.bool ov], 4, false⟩), .at_ b18 (.row ⟨[.pointer (some ⟨q, 0, none⟩)], 90, false⟩), .at_ q (.row ⟨[.slice (some ⟨bc, 0, none⟩) wd wd, .slice (some ⟨bp, 0, none⟩) wd wd, .int .i64 s2.fr, .int .i64 0, .bool s2.co, .int .i64 ((s2.n : Nat) : Int)], 99, false⟩), .at_ b14 (.row ⟨[.func (.yield b10) #[] #[]], 89, false⟩), .at_ b10 lq64, .at_ d9 (.defs true), .at_ b8 (.row ⟨[.bool wrap], 4, false⟩), .at_ b7 (.row ⟨[.int .i64 ((tab : Nat) : Int)], 3, false⟩), .at_ b6 (.row ⟨[.int .i64 ((wd : Nat) : Int)], 3, false⟩), .at_ b5 (.row ⟨[.int .i64 to_], 3, false⟩), .at_ b4 (.row ⟨[v1], 22, false⟩), .at_ b3 (.row ⟨[v80], 27, false⟩), .at_ b2 (.row ⟨[.int .i64 ((most : Nat) : Int)], 3, false⟩), .at_ b1 (.row ⟨[.int .i64 to_], 3, false⟩)]) (r := rowOf s2) hB H
      rw [show rowsV (csB wd B) (psB wd B) (tosX R s2.fr) ++ [.slice (some ⟨bc, 0, none⟩) wd wd, .slice (some ⟨bp, 0, none⟩) wd wd, .int .i64 s2.fr, .int .i64 to_, .bool s2.co] = rowsV (csB wd (B ++ [(bc, bp)])) (psB wd (B ++ [(bc, bp)])) (tosX (R ++ [rowOf s2]) to_) from rowsV_push (r := rowOf s2) hB, show R.length + 1 = (R ++ [rowOf s2]).length from by rw [List.length_append]; rfl] at H
      replace H : Lies G A F _ (.at_ b63 (.row ⟨[.slice (some ⟨bc, 0, none⟩) wd wd, .slice (some ⟨bp, 0, none⟩) wd wd, .int .i64 s2.fr, .int .i64 to_, .bool s2.co], 39, false⟩) :: .at_ b47 (.row ⟨[uv, .int .i64 ps, .bool fd], 96, false⟩) :: .at_ it42 (.iter ⟨(l.getD i default).s.toArray⟩ p2) :: .at_ b41 (.row ⟨[.int .i64 ((l.getD i default).k), .int .i64 ((l.getD i default).p), .int .i64 ((l.getD i default).t), .string ⟨((l.getD i default).s).toArray⟩, .int .i64 ((l.getD i default).b), .int .i64 ((l.getD i default).c), .bool ((l.getD i default).d), .bool ((l.getD i default).e), .bool ((l.getD i default).f)], 52, false⟩) :: .sl 39 5 v80 ((R ++ [rowOf s2]).length) (rowsV (csB wd (B ++ [(bc, bp)])) (psB wd (B ++ [(bc, bp)])) (tosX (R ++ [rowOf s2]) to_)) :: .at_ b31 lq44 :: .at_ d30 (.defs true) :: .at_ b29 (.row ⟨[v1], 22, false⟩) :: .at_ b28 (.row ⟨[.int .i64 ((cn : Nat) : Int)], 3, false⟩) :: .at_ b27 (.row ⟨[.func (.yield b23) #[] #[]], 100, false⟩) :: .at_ b23 lq58 :: .at_ d22 (.defs true) :: .at_ b21 (.row ⟨[.int .i64 ((tab : Nat) : Int)], 3, false⟩) :: .at_ b20 (.row ⟨[v1], 22, false⟩) :: .at_ b19 (.row ⟨[.bool ov], 4, false⟩) :: .at_ b18 (.row ⟨[.pointer (some ⟨q, 0, none⟩)], 90, false⟩) :: .at_ q (.row ⟨[.slice (some ⟨bc, 0, none⟩) wd wd, .slice (some ⟨bp, 0, none⟩) wd wd, .int .i64 s2.fr, .int .i64 0, .bool s2.co, .int .i64 ((s2.n : Nat) : Int)], 99, false⟩) :: .at_ b14 (.row ⟨[.func (.yield b10) #[] #[]], 89, false⟩) :: .at_ b10 lq64 :: .at_ d9 (.defs true) :: .at_ b8 (.row ⟨[.bool wrap], 4, false⟩) :: .at_ b7 (.row ⟨[.int .i64 ((tab : Nat) : Int)], 3, false⟩) :: .at_ b6 (.row ⟨[.int .i64 ((wd : Nat) : Int)], 3, false⟩) :: .at_ b5 (.row ⟨[.int .i64 to_], 3, false⟩) :: .at_ b4 (.row ⟨[v1], 22, false⟩) :: .at_ b3 (.row ⟨[v80], 27, false⟩) :: .at_ b2 (.row ⟨[.int .i64 ((most : Nat) : Int)], 3, false⟩) :: .at_ b1 (.row ⟨[.int .i64 to_], 3, false⟩) :: ((REs (B ++ [(bc, bp)]) (R ++ [rowOf s2]) ++ L))) := H
      refine RW.nil ?_
      replace H := (H.del 0)
      dsimp only [setL, delL] at H
      refine blkQ_normal ?_
      refine ⟨_, _, _, 17, true, .ready, none, H, rfl, rfl, ?_⟩
      clear H; intro _ lr81 hr82 H
      dsimp only [setL, delL] at H
      have H83 := H
      refine RW.v ?_
      refine RW.nil ?_
      refine ⟨⟨by kernel_rfl, ⟨dyn_row (H62.get 18 rfl) (H83.get 16 rfl) ⟨nB, nB, nB, nB, nB, fun _ => H62.get 18 rfl, nB, trivial⟩, dyn_row (H62.get 14 rfl) (H83.get 14 rfl) ⟨nB, nB, nB, nB, nB, fun _ => H62.get 14 rfl, nB, trivial⟩, trivial, trivial, dyn_row (H62.get 15 rfl) (H83.get 15 rfl) ⟨nB, nB, nB, nB, nB, fun _ => H62.get 15 rfl, nB, trivial⟩, trivial, trivial, trivial⟩⟩, ?_⟩
      replace H := H83
      clear H62 H83
      refine W.c0 ?_
      refine W.skip ?_
      refine W.region ?_
      refine RW.ld H 21 1 ?_
      refine RW.cl ?_
      refine ((fill_wc (wd := wd) (by omega) (by omega) H).mono ?_)
      clear H
      rintro _ _ ⟨q84, bc85, bp86, rfl, H⟩
      replace H : Lies G A F _ (.at_ q84 (.row ⟨[.slice (some ⟨bc85, 0, none⟩) wd wd, .slice (some ⟨bp86, 0, none⟩) wd wd, .int .i64 ((fil0 wd).fr), .int .i64 0, .bool ((fil0 wd).co), .int .i64 (((fil0 wd).n : Nat) : Int)], 99, false⟩) :: .at_ bc85 (.row ⟨cC (fil0 wd).C, 79, false⟩) :: .at_ bp86 (.row ⟨(fil0 wd).P.map (Value.int .i64), 3, false⟩) :: .at_ b47 (.row ⟨[uv, .int .i64 ps, .bool fd], 96, false⟩) :: .at_ it42 (.iter ⟨(l.getD i default).s.toArray⟩ p2) :: .at_ b41 (.row ⟨[.int .i64 ((l.getD i default).k), .int .i64 ((l.getD i default).p), .int .i64 ((l.getD i default).t), .string ⟨((l.getD i default).s).toArray⟩, .int .i64 ((l.getD i default).b), .int .i64 ((l.getD i default).c), .bool ((l.getD i default).d), .bool ((l.getD i default).e), .bool ((l.getD i default).f)], 52, false⟩) :: .sl 39 5 v80 ((R ++ [rowOf s2]).length) (rowsV (csB wd (B ++ [(bc, bp)])) (psB wd (B ++ [(bc, bp)])) (tosX (R ++ [rowOf s2]) to_)) :: .at_ b31 lq44 :: .at_ d30 (.defs true) :: .at_ b29 (.row ⟨[v1], 22, false⟩) :: .at_ b28 (.row ⟨[.int .i64 ((cn : Nat) : Int)], 3, false⟩) :: .at_ b27 (.row ⟨[.func (.yield b23) #[] #[]], 100, false⟩) :: .at_ b23 lq58 :: .at_ d22 (.defs true) :: .at_ b21 (.row ⟨[.int .i64 ((tab : Nat) : Int)], 3, false⟩) :: .at_ b20 (.row ⟨[v1], 22, false⟩) :: .at_ b19 (.row ⟨[.bool ov], 4, false⟩) :: .at_ b18 (.row ⟨[.pointer (some ⟨q, 0, none⟩)], 90, false⟩) :: .at_ q (.row ⟨[.slice (some ⟨bc, 0, none⟩) wd wd, .slice (some ⟨bp, 0, none⟩) wd wd, .int .i64 s2.fr, .int .i64 0, .bool s2.co, .int .i64 ((s2.n : Nat) : Int)], 99, false⟩) :: .at_ b14 (.row ⟨[.func (.yield b10) #[] #[]], 89, false⟩) :: .at_ b10 lr81 :: .at_ d9 (.defs true) :: .at_ b8 (.row ⟨[.bool wrap], 4, false⟩) :: .at_ b7 (.row ⟨[.int .i64 ((tab : Nat) : Int)], 3, false⟩) :: .at_ b6 (.row ⟨[.int .i64 ((wd : Nat) : Int)], 3, false⟩) :: .at_ b5 (.row ⟨[.int .i64 to_], 3, false⟩) :: .at_ b4 (.row ⟨[v1], 22, false⟩) :: .at_ b3 (.row ⟨[v80], 27, false⟩) :: .at_ b2 (.row ⟨[.int .i64 ((most : Nat) : Int)], 3, false⟩) :: .at_ b1 (.row ⟨[.int .i64 to_], 3, false⟩) :: ((REs (B ++ [(bc, bp)]) (R ++ [rowOf s2]) ++ L))) := H
      refine RW.st H 17 [pt q84] [pt q84] ?_
      clear H; intro _ _ H; dsimp only [setL, delL] at H
      refine RW.st H 16 [.bool false] [.bool false] ?_
      clear H; intro _ _ H; dsimp only [setL, delL] at H
      refine RW.nil ?_
      replace H := (H.del 18)
      dsimp only [setL, delL] at H
      refine blkQ_normal ?_
      refine blkQ_normal ?_
      refine ⟨_, _, _, 12, true, .ready, none, H, rfl, rfl, ?_⟩
      clear H; intro _ lr87 _ hr88 H
      dsimp only [setL, delL] at H
      refine RW.v ?_
      refine RW.nil ?_
      refine W.c0 ?_
      refine W.skip ?_
      refine blkQ_normal ?_
      refine W.region ?_
      refine RW.valE (v' := .int .i64 (((j : Nat) : Int) + 1)) (by kernel_rfl) (by kernel_rfl) rfl (congrArg (Value.int .i64) (wrap_in (by omega) (by omega))) (by kernel_rfl) ?_
      refine RW.v ?_
      refine RW.nil ?_
      rw [show lr87 = lp24 from hr88.trans hl25.symm] at H
      rw [show lr81 = lp11 from hr82.trans hl12.symm] at H
      replace H := H.front 28 rfl
      dsimp only [delL] at H
      replace H := H.front 28 rfl
      dsimp only [delL] at H
      replace H := H.front 28 rfl
      dsimp only [delL] at H
      replace H := H.front 28 rfl
      dsimp only [delL] at H
      replace H := H.front 28 rfl
      dsimp only [delL] at H
      replace H := H.front 28 rfl
      dsimp only [delL] at H
      replace H := H.front 28 rfl
      dsimp only [delL] at H
      replace H := H.front 28 rfl
      dsimp only [delL] at H
      replace H := H.front 28 rfl
      dsimp only [delL] at H
      replace H := H.front 28 rfl
      dsimp only [delL] at H
      replace H := H.front 28 rfl
      dsimp only [delL] at H
      replace H := H.front 13 rfl
      dsimp only [delL] at H
      replace H := H.front 13 rfl
      dsimp only [delL] at H
      replace H := H.front 13 rfl
      dsimp only [delL] at H
      replace H := H.front 28 rfl
      dsimp only [delL] at H
      replace H := H.front 28 rfl
      dsimp only [delL] at H
      replace H := H.front 28 rfl
      dsimp only [delL] at H
      replace H := H.front 28 rfl
      dsimp only [delL] at H
      replace H := H.front 28 rfl
      dsimp only [delL] at H
      replace H := H.front 28 rfl
      dsimp only [delL] at H
      replace H := H.front 28 rfl
      dsimp only [delL] at H
      replace H := H.front 28 rfl
      dsimp only [delL] at H
      replace H := H.front 28 rfl
      dsimp only [delL] at H
      replace H := H.front 28 rfl
      dsimp only [delL] at H
      replace H := H.front 28 rfl
      dsimp only [delL] at H
      replace H := H.front 28 rfl
      dsimp only [delL] at H
      replace H := H.front 28 rfl
      dsimp only [delL] at H
      replace H := H.front 28 rfl
      dsimp only [delL] at H
      replace H := H.front 28 rfl
      dsimp only [delL] at H
      exact ⟨rfl, mm3 - 1, by omega, j + 1, v80, (B ++ [(bc, bp)]), (R ++ [rowOf s2]), q84, bc85, bp86, (fil0 wd), false, (by omega), (by rw [List.length_append, List.length_append, hB]; rfl), (by rw [List.length_append, List.length_singleton]; omega), (ok_fil0 (by omega)), (by rw [hc60b]; exact hT), H, rfl, rfl, rfl, rfl, rfl, rfl⟩
    ·have hc60b := hc60
     rw [hc60b] at hT
     refine W.seq (W.region ?_)
     refine RW.ld H 14 1 ?_
     refine RW.v ?_
     refine RW.both _ _ rfl rfl rfl (fun hc89 => ?_) (fun hc89 => ?_)
     ·have hc89b := hc89
      rw [hc89b] at hT
      rw [go_over] at hT
      iterate 3 refine RW.s ?_
      iterate 2 refine RW.v ?_
      refine RW.nil ?_
      refine W.c1 ?_
      refine W.skip ?_
      refine blkQ_normal ?_
      refine blkQ_normal ?_
      refine ⟨_, _, _, 10, true, .ready, none, H, rfl, rfl, ?_⟩
      clear H; intro _ lr90 _ hr91 H
      dsimp only [setL, delL] at H
      refine RW.v ?_
      refine RW.nil ?_
      replace H := (H.del 0)
      dsimp only [setL, delL] at H
      refine W.c0 ?_
      refine W.skip ?_
      refine blkQ_normal ?_
      refine W.region ?_
      refine RW.valE (v' := .int .i64 (((j : Nat) : Int) + 1)) (by kernel_rfl) (by kernel_rfl) rfl (congrArg (Value.int .i64) (wrap_in (by omega) (by omega))) (by kernel_rfl) ?_
      refine RW.v ?_
      refine RW.nil ?_
      rw [show lr90 = lp24 from hr91.trans hl25.symm] at H
      exact ⟨rfl, mm3 - 1, by omega, j + 1, u, B, R, q, bc, bp, s, ov, (by omega), hB, hR, ok, (by rw [hc60b, hc89b]; exact hT), H, rfl, rfl, rfl, rfl, rfl, rfl⟩
     ·have hc89b := hc89
      rw [hc89b] at hT
      refine RW.ldL H 15 1 (by rfl) (by kernel_rfl) rfl rfl rfl rfl rfl (by kernel_rfl) ?_
      refine RW.ldL H 0 3 (by rfl) (by kernel_rfl) rfl rfl rfl rfl rfl (by kernel_rfl) ?_
      replace H := H.front 18 rfl
      dsimp only [delL] at H
      replace H := H.front 18 rfl
      dsimp only [delL] at H
      replace H := H.front 18 rfl
      dsimp only [delL] at H
      refine RW.cl (hw := by rfl) ?_
      refine ((put_wc ok (by omega) hX hXl (show Lies G A F _ (FE q bc bp wd s ++ (.at_ b57 (.row ⟨[uv, .int .i64 ps, .bool fd], 96, false⟩) :: .at_ b47 (.row ⟨[uv, .int .i64 ps, .bool fd], 96, false⟩) :: .at_ it42 (.iter ⟨(l.getD i default).s.toArray⟩ p2) :: .at_ b41 (.row ⟨[.int .i64 ((l.getD i default).k), .int .i64 ((l.getD i default).p), .int .i64 ((l.getD i default).t), .string ⟨((l.getD i default).s).toArray⟩, .int .i64 ((l.getD i default).b), .int .i64 ((l.getD i default).c), .bool ((l.getD i default).d), .bool ((l.getD i default).e), .bool ((l.getD i default).f)], 52, false⟩) :: .sl 39 5 u R.length (rowsV (csB wd B) (psB wd B) (tosX R to_)) :: .at_ b31 lq44 :: .at_ d30 (.defs true) :: .at_ b29 (.row ⟨[v1], 22, false⟩) :: .at_ b28 (.row ⟨[.int .i64 ((cn : Nat) : Int)], 3, false⟩) :: .at_ b27 (.row ⟨[.func (.yield b23) #[] #[]], 100, false⟩) :: .at_ b23 lq58 :: .at_ d22 (.defs true) :: .at_ b21 (.row ⟨[.int .i64 ((tab : Nat) : Int)], 3, false⟩) :: .at_ b20 (.row ⟨[v1], 22, false⟩) :: .at_ b19 (.row ⟨[.bool ov], 4, false⟩) :: .at_ b18 (.row ⟨[.pointer (some ⟨q, 0, none⟩)], 90, false⟩) :: .at_ b14 (.row ⟨[.func (.yield b10) #[] #[]], 89, false⟩) :: .at_ b10 lp11 :: .at_ d9 (.defs true) :: .at_ b8 (.row ⟨[.bool wrap], 4, false⟩) :: .at_ b7 (.row ⟨[.int .i64 ((tab : Nat) : Int)], 3, false⟩) :: .at_ b6 (.row ⟨[.int .i64 ((wd : Nat) : Int)], 3, false⟩) :: .at_ b5 (.row ⟨[.int .i64 to_], 3, false⟩) :: .at_ b4 (.row ⟨[v1], 22, false⟩) :: .at_ b3 (.row ⟨[u], 27, false⟩) :: .at_ b2 (.row ⟨[.int .i64 ((most : Nat) : Int)], 3, false⟩) :: .at_ b1 (.row ⟨[.int .i64 to_], 3, false⟩) :: ((REs B R ++ L)))) from H)).mono ?_)
      clear H
      rintro _ _ ⟨rfl, H⟩
      replace H : Lies G A F _ (.at_ q (.row ⟨[.slice (some ⟨bc, 0, none⟩) wd wd, .slice (some ⟨bp, 0, none⟩) wd wd, .int .i64 ((putF wd s XS ps).1.fr), .int .i64 0, .bool ((putF wd s XS ps).1.co), .int .i64 (((putF wd s XS ps).1.n : Nat) : Int)], 99, false⟩) :: .at_ bc (.row ⟨cC (putF wd s XS ps).1.C, 79, false⟩) :: .at_ bp (.row ⟨(putF wd s XS ps).1.P.map (Value.int .i64), 3, false⟩) :: .at_ b57 (.row ⟨[uv, .int .i64 ps, .bool fd], 96, false⟩) :: .at_ b47 (.row ⟨[uv, .int .i64 ps, .bool fd], 96, false⟩) :: .at_ it42 (.iter ⟨(l.getD i default).s.toArray⟩ p2) :: .at_ b41 (.row ⟨[.int .i64 ((l.getD i default).k), .int .i64 ((l.getD i default).p), .int .i64 ((l.getD i default).t), .string ⟨((l.getD i default).s).toArray⟩, .int .i64 ((l.getD i default).b), .int .i64 ((l.getD i default).c), .bool ((l.getD i default).d), .bool ((l.getD i default).e), .bool ((l.getD i default).f)], 52, false⟩) :: .sl 39 5 u R.length (rowsV (csB wd B) (psB wd B) (tosX R to_)) :: .at_ b31 lq44 :: .at_ d30 (.defs true) :: .at_ b29 (.row ⟨[v1], 22, false⟩) :: .at_ b28 (.row ⟨[.int .i64 ((cn : Nat) : Int)], 3, false⟩) :: .at_ b27 (.row ⟨[.func (.yield b23) #[] #[]], 100, false⟩) :: .at_ b23 lq58 :: .at_ d22 (.defs true) :: .at_ b21 (.row ⟨[.int .i64 ((tab : Nat) : Int)], 3, false⟩) :: .at_ b20 (.row ⟨[v1], 22, false⟩) :: .at_ b19 (.row ⟨[.bool ov], 4, false⟩) :: .at_ b18 (.row ⟨[.pointer (some ⟨q, 0, none⟩)], 90, false⟩) :: .at_ b14 (.row ⟨[.func (.yield b10) #[] #[]], 89, false⟩) :: .at_ b10 lp11 :: .at_ d9 (.defs true) :: .at_ b8 (.row ⟨[.bool wrap], 4, false⟩) :: .at_ b7 (.row ⟨[.int .i64 ((tab : Nat) : Int)], 3, false⟩) :: .at_ b6 (.row ⟨[.int .i64 ((wd : Nat) : Int)], 3, false⟩) :: .at_ b5 (.row ⟨[.int .i64 to_], 3, false⟩) :: .at_ b4 (.row ⟨[v1], 22, false⟩) :: .at_ b3 (.row ⟨[u], 27, false⟩) :: .at_ b2 (.row ⟨[.int .i64 ((most : Nat) : Int)], 3, false⟩) :: .at_ b1 (.row ⟨[.int .i64 to_], 3, false⟩) :: ((REs B R ++ L))) := H
      iterate 2 refine RW.v ?_
      refine RW.nil ?_
      refine W.rg [(1, .pointer (some ⟨b6, 0, none⟩)), (4, .pointer (some ⟨b8, 0, none⟩)), (5, .pointer (some ⟨b5, 0, none⟩)), (6, .pointer (some ⟨b14, 0, none⟩)), (7, .pointer (some ⟨b18, 0, none⟩)), (8, .pointer (some ⟨b19, 0, none⟩)), (9, .pointer (some ⟨b57, 0, none⟩)), (14, .func (.func 65) #[] #[.pointer (some ⟨b20, 0, none⟩), .pointer (some ⟨b21, 0, none⟩)]), (15, .agg #[uv, .int .i64 ps, .bool fd]), (36, .bool ((putF wd s XS ps).2))] fun TA => ?_
      refine W.cond rfl (fun hc92 => ?_) (fun hc92 => ?_)
      ·have hc92b := hc92
       rw [go_put hc92b] at hT
       refine W.skip ?_
       refine blkQ_normal ?_
       refine blkQ_normal ?_
       refine ⟨_, _, _, 13, true, .ready, none, H, rfl, rfl, ?_⟩
       clear H; intro _ lr93 _ hr94 H
       dsimp only [setL, delL] at H
       refine RW.v ?_
       refine RW.nil ?_
       replace H := (H.del 3)
       dsimp only [setL, delL] at H
       refine W.c0 ?_
       refine W.skip ?_
       refine blkQ_normal ?_
       refine W.region ?_
       refine RW.valE (v' := .int .i64 (((j : Nat) : Int) + 1)) (by kernel_rfl) (by kernel_rfl) rfl (congrArg (Value.int .i64) (wrap_in (by omega) (by omega))) (by kernel_rfl) ?_
       refine RW.v ?_
       refine RW.nil ?_
       rw [show lr93 = lp24 from hr94.trans hl25.symm] at H
       replace H := H.front 28 rfl
       dsimp only [delL] at H
       replace H := H.front 28 rfl
       dsimp only [delL] at H
       replace H := H.front 28 rfl
       dsimp only [delL] at H
       replace H := H.front 28 rfl
       dsimp only [delL] at H
       replace H := H.front 28 rfl
       dsimp only [delL] at H
       replace H := H.front 28 rfl
       dsimp only [delL] at H
       replace H := H.front 28 rfl
       dsimp only [delL] at H
       replace H := H.front 28 rfl
       dsimp only [delL] at H
       replace H := H.front 28 rfl
       dsimp only [delL] at H
       replace H := H.front 28 rfl
       dsimp only [delL] at H
       replace H := H.front 28 rfl
       dsimp only [delL] at H
       replace H := H.front 13 rfl
       dsimp only [delL] at H
       replace H := H.front 13 rfl
       dsimp only [delL] at H
       replace H := H.front 13 rfl
       dsimp only [delL] at H
       replace H := H.front 28 rfl
       dsimp only [delL] at H
       replace H := H.front 28 rfl
       dsimp only [delL] at H
       replace H := H.front 28 rfl
       dsimp only [delL] at H
       replace H := H.front 28 rfl
       dsimp only [delL] at H
       replace H := H.front 28 rfl
       dsimp only [delL] at H
       replace H := H.front 28 rfl
       dsimp only [delL] at H
       replace H := H.front 28 rfl
       dsimp only [delL] at H
       replace H := H.front 28 rfl
       dsimp only [delL] at H
       replace H := H.front 28 rfl
       dsimp only [delL] at H
       replace H := H.front 28 rfl
       dsimp only [delL] at H
       replace H := H.front 28 rfl
       dsimp only [delL] at H
       replace H := H.front 28 rfl
       dsimp only [delL] at H
       replace H := H.front 28 rfl
       dsimp only [delL] at H
       replace H := H.front 28 rfl
       dsimp only [delL] at H
       replace H := H.front 28 rfl
       dsimp only [delL] at H
       exact ⟨rfl, mm3 - 1, by omega, j + 1, u, B, R, q, bc, bp, (putF wd s XS ps).1, ov, (by omega), hB, hR, (ok_put ok), (by rw [hc60b, hc89b]; exact hT), H, rfl, rfl, rfl, rfl, rfl, rfl⟩
      ·have hc92b := hc92
       rw [putF_no hc92b] at H
       refine W.seq (W.region ?_)
       refine RW.ld H 22 1 ?_
       refine RW.v ?_
       refine RW.nil ?_
       refine W.rg [(1, .pointer (some ⟨b6, 0, none⟩)), (4, .pointer (some ⟨b8, 0, none⟩)), (5, .pointer (some ⟨b5, 0, none⟩)), (6, .pointer (some ⟨b14, 0, none⟩)), (7, .pointer (some ⟨b18, 0, none⟩)), (8, .pointer (some ⟨b19, 0, none⟩)), (9, .pointer (some ⟨b57, 0, none⟩)), (14, .func (.func 65) #[] #[.pointer (some ⟨b20, 0, none⟩), .pointer (some ⟨b21, 0, none⟩)]), (15, .agg #[uv, .int .i64 ps, .bool fd]), (43, .bool wrap)] fun TA => ?_
       refine W.cond rfl (fun hc95 => ?_) (fun hc95 => ?_)
       ·have hc95b := hc95
        refine W.seq (W.region ?_)
        refine RW.ld H 18 1 ?_
        replace H := H.front 2 rfl
        dsimp only [delL] at H
        replace H := H.front 2 rfl
        dsimp only [delL] at H
        replace H := H.front 2 rfl
        dsimp only [delL] at H
        refine RW.cl ?_
        refine ((mark_wc (c := 92) ok (by omega) (show Lies G A F _ (FE q bc bp wd s ++ (.at_ b57 (.row ⟨[uv, .int .i64 ps, .bool fd], 96, false⟩) :: .at_ b47 (.row ⟨[uv, .int .i64 ps, .bool fd], 96, false⟩) :: .at_ it42 (.iter ⟨(l.getD i default).s.toArray⟩ p2) :: .at_ b41 (.row ⟨[.int .i64 ((l.getD i default).k), .int .i64 ((l.getD i default).p), .int .i64 ((l.getD i default).t), .string ⟨((l.getD i default).s).toArray⟩, .int .i64 ((l.getD i default).b), .int .i64 ((l.getD i default).c), .bool ((l.getD i default).d), .bool ((l.getD i default).e), .bool ((l.getD i default).f)], 52, false⟩) :: .sl 39 5 u R.length (rowsV (csB wd B) (psB wd B) (tosX R to_)) :: .at_ b31 lq44 :: .at_ d30 (.defs true) :: .at_ b29 (.row ⟨[v1], 22, false⟩) :: .at_ b28 (.row ⟨[.int .i64 ((cn : Nat) : Int)], 3, false⟩) :: .at_ b27 (.row ⟨[.func (.yield b23) #[] #[]], 100, false⟩) :: .at_ b23 lq58 :: .at_ d22 (.defs true) :: .at_ b21 (.row ⟨[.int .i64 ((tab : Nat) : Int)], 3, false⟩) :: .at_ b20 (.row ⟨[v1], 22, false⟩) :: .at_ b19 (.row ⟨[.bool ov], 4, false⟩) :: .at_ b18 (.row ⟨[.pointer (some ⟨q, 0, none⟩)], 90, false⟩) :: .at_ b14 (.row ⟨[.func (.yield b10) #[] #[]], 89, false⟩) :: .at_ b10 lp11 :: .at_ d9 (.defs true) :: .at_ b8 (.row ⟨[.bool wrap], 4, false⟩) :: .at_ b7 (.row ⟨[.int .i64 ((tab : Nat) : Int)], 3, false⟩) :: .at_ b6 (.row ⟨[.int .i64 ((wd : Nat) : Int)], 3, false⟩) :: .at_ b5 (.row ⟨[.int .i64 to_], 3, false⟩) :: .at_ b4 (.row ⟨[v1], 22, false⟩) :: .at_ b3 (.row ⟨[u], 27, false⟩) :: .at_ b2 (.row ⟨[.int .i64 ((most : Nat) : Int)], 3, false⟩) :: .at_ b1 (.row ⟨[.int .i64 to_], 3, false⟩) :: ((REs B R ++ L)))) from H)).mono ?_)
        clear H
        intro _ _ H
        replace H : Lies G A F _ (.at_ q (.row ⟨[.slice (some ⟨bc, 0, none⟩) wd wd, .slice (some ⟨bp, 0, none⟩) wd wd, .int .i64 ((markF s 92).fr), .int .i64 0, .bool ((markF s 92).co), .int .i64 (((markF s 92).n : Nat) : Int)], 99, false⟩) :: .at_ bc (.row ⟨cC (markF s 92).C, 79, false⟩) :: .at_ bp (.row ⟨(markF s 92).P.map (Value.int .i64), 3, false⟩) :: .at_ b57 (.row ⟨[uv, .int .i64 ps, .bool fd], 96, false⟩) :: .at_ b47 (.row ⟨[uv, .int .i64 ps, .bool fd], 96, false⟩) :: .at_ it42 (.iter ⟨(l.getD i default).s.toArray⟩ p2) :: .at_ b41 (.row ⟨[.int .i64 ((l.getD i default).k), .int .i64 ((l.getD i default).p), .int .i64 ((l.getD i default).t), .string ⟨((l.getD i default).s).toArray⟩, .int .i64 ((l.getD i default).b), .int .i64 ((l.getD i default).c), .bool ((l.getD i default).d), .bool ((l.getD i default).e), .bool ((l.getD i default).f)], 52, false⟩) :: .sl 39 5 u R.length (rowsV (csB wd B) (psB wd B) (tosX R to_)) :: .at_ b31 lq44 :: .at_ d30 (.defs true) :: .at_ b29 (.row ⟨[v1], 22, false⟩) :: .at_ b28 (.row ⟨[.int .i64 ((cn : Nat) : Int)], 3, false⟩) :: .at_ b27 (.row ⟨[.func (.yield b23) #[] #[]], 100, false⟩) :: .at_ b23 lq58 :: .at_ d22 (.defs true) :: .at_ b21 (.row ⟨[.int .i64 ((tab : Nat) : Int)], 3, false⟩) :: .at_ b20 (.row ⟨[v1], 22, false⟩) :: .at_ b19 (.row ⟨[.bool ov], 4, false⟩) :: .at_ b18 (.row ⟨[.pointer (some ⟨q, 0, none⟩)], 90, false⟩) :: .at_ b14 (.row ⟨[.func (.yield b10) #[] #[]], 89, false⟩) :: .at_ b10 lp11 :: .at_ d9 (.defs true) :: .at_ b8 (.row ⟨[.bool wrap], 4, false⟩) :: .at_ b7 (.row ⟨[.int .i64 ((tab : Nat) : Int)], 3, false⟩) :: .at_ b6 (.row ⟨[.int .i64 ((wd : Nat) : Int)], 3, false⟩) :: .at_ b5 (.row ⟨[.int .i64 to_], 3, false⟩) :: .at_ b4 (.row ⟨[v1], 22, false⟩) :: .at_ b3 (.row ⟨[u], 27, false⟩) :: .at_ b2 (.row ⟨[.int .i64 ((most : Nat) : Int)], 3, false⟩) :: .at_ b1 (.row ⟨[.int .i64 to_], 3, false⟩) :: ((REs B R ++ L))) := H
        refine RW.nil ?_
        refine W.rg [(1, .pointer (some ⟨b6, 0, none⟩)), (4, .pointer (some ⟨b8, 0, none⟩)), (5, .pointer (some ⟨b5, 0, none⟩)), (6, .pointer (some ⟨b14, 0, none⟩)), (7, .pointer (some ⟨b18, 0, none⟩)), (8, .pointer (some ⟨b19, 0, none⟩)), (9, .pointer (some ⟨b57, 0, none⟩)), (14, .func (.func 65) #[] #[.pointer (some ⟨b20, 0, none⟩), .pointer (some ⟨b21, 0, none⟩)]), (15, .agg #[uv, .int .i64 ps, .bool fd])] fun TA => ?_
        refine W.seq (W.region ?_)
        refine RW.ld H 18 1 ?_
        iterate 3 refine RW.v ?_
        refine RW.st H 0 [.bool true] [.slice (some ⟨bc, 0, none⟩) wd wd, .slice (some ⟨bp, 0, none⟩) wd wd, .int .i64 ((markF s 92).fr), .int .i64 0, .bool true, .int .i64 (((markF s 92).n : Nat) : Int)] ?_
        clear H; intro _ _ H; dsimp only [setL, delL] at H
        replace H : Lies G A F _ (.at_ q (.row ⟨[.slice (some ⟨bc, 0, none⟩) wd wd, .slice (some ⟨bp, 0, none⟩) wd wd, .int .i64 s.fr, .int .i64 0, .bool true, .int .i64 (((wrapF s).n : Nat) : Int)], 99, false⟩) :: .at_ bc (.row ⟨cC (wrapF s).C, 79, false⟩) :: .at_ bp (.row ⟨(wrapF s).P.map (Value.int .i64), 3, false⟩) :: .at_ b57 (.row ⟨[uv, .int .i64 ps, .bool fd], 96, false⟩) :: .at_ b47 (.row ⟨[uv, .int .i64 ps, .bool fd], 96, false⟩) :: .at_ it42 (.iter ⟨(l.getD i default).s.toArray⟩ p2) :: .at_ b41 (.row ⟨[.int .i64 ((l.getD i default).k), .int .i64 ((l.getD i default).p), .int .i64 ((l.getD i default).t), .string ⟨((l.getD i default).s).toArray⟩, .int .i64 ((l.getD i default).b), .int .i64 ((l.getD i default).c), .bool ((l.getD i default).d), .bool ((l.getD i default).e), .bool ((l.getD i default).f)], 52, false⟩) :: .sl 39 5 u R.length (rowsV (csB wd B) (psB wd B) (tosX R to_)) :: .at_ b31 lq44 :: .at_ d30 (.defs true) :: .at_ b29 (.row ⟨[v1], 22, false⟩) :: .at_ b28 (.row ⟨[.int .i64 ((cn : Nat) : Int)], 3, false⟩) :: .at_ b27 (.row ⟨[.func (.yield b23) #[] #[]], 100, false⟩) :: .at_ b23 lq58 :: .at_ d22 (.defs true) :: .at_ b21 (.row ⟨[.int .i64 ((tab : Nat) : Int)], 3, false⟩) :: .at_ b20 (.row ⟨[v1], 22, false⟩) :: .at_ b19 (.row ⟨[.bool ov], 4, false⟩) :: .at_ b18 (.row ⟨[.pointer (some ⟨q, 0, none⟩)], 90, false⟩) :: .at_ b14 (.row ⟨[.func (.yield b10) #[] #[]], 89, false⟩) :: .at_ b10 lp11 :: .at_ d9 (.defs true) :: .at_ b8 (.row ⟨[.bool wrap], 4, false⟩) :: .at_ b7 (.row ⟨[.int .i64 ((tab : Nat) : Int)], 3, false⟩) :: .at_ b6 (.row ⟨[.int .i64 ((wd : Nat) : Int)], 3, false⟩) :: .at_ b5 (.row ⟨[.int .i64 to_], 3, false⟩) :: .at_ b4 (.row ⟨[v1], 22, false⟩) :: .at_ b3 (.row ⟨[u], 27, false⟩) :: .at_ b2 (.row ⟨[.int .i64 ((most : Nat) : Int)], 3, false⟩) :: .at_ b1 (.row ⟨[.int .i64 to_], 3, false⟩) :: ((REs B R ++ L))) := H
        refine RW.nil ?_
        refine W.rg [(1, .pointer (some ⟨b6, 0, none⟩)), (4, .pointer (some ⟨b8, 0, none⟩)), (5, .pointer (some ⟨b5, 0, none⟩)), (6, .pointer (some ⟨b14, 0, none⟩)), (7, .pointer (some ⟨b18, 0, none⟩)), (8, .pointer (some ⟨b19, 0, none⟩)), (9, .pointer (some ⟨b57, 0, none⟩)), (14, .func (.func 65) #[] #[.pointer (some ⟨b20, 0, none⟩), .pointer (some ⟨b21, 0, none⟩)]), (15, .agg #[uv, .int .i64 ps, .bool fd])] fun TA => ?_
        refine W.seq ?_
        refine W.seq ?_
        refine W.drawn (by kernel_rfl) (by kernel_rfl) H.gn ?_
        have H96 := H
        refine RW.ld H96 19 1 ?_
        refine RW.ld H96 18 1 ?_
        iterate 2 refine RW.v ?_
        refine RW.ld H96 0 5 ?_
        have H := H96
        refine RW.yieldLD H 20 rfl hl12 (by kernel_rfl) (by kernel_rfl) rfl rfl rfl rfl rfl (by kernel_rfl) ?_
        refine W.rg [(9, .pointer (some ⟨b1, 0, none⟩)), (13, .pointer (some ⟨b2, 0, none⟩)), (17, .pointer (some ⟨b3, 0, none⟩)), (54, .func (.func 50) #[] #[.pointer (some ⟨b6, 0, none⟩), .pointer (some ⟨b4, 0, none⟩), .pointer (some ⟨b7, 0, none⟩), .pointer (some ⟨b8, 0, none⟩), .pointer (some ⟨b5, 0, none⟩)]), (55, .agg #[.slice (some ⟨bc, 0, none⟩) wd wd, .slice (some ⟨bp, 0, none⟩) wd wd, .int .i64 s.fr, .int .i64 0, .bool true])] fun TA => ?_
        refine W.region ?_
        refine RW.mk H (.row ⟨[.slice none 0 0, .slice none 0 0, .int .i64 0, .int .i64 0, .bool false], 39, false⟩) ?_
        clear H; intro _ b97 _ H
        refine RW.st H 0 [.slice (some ⟨bc, 0, none⟩) wd wd, .slice (some ⟨bp, 0, none⟩) wd wd, .int .i64 s.fr, .int .i64 0, .bool true] [.slice (some ⟨bc, 0, none⟩) wd wd, .slice (some ⟨bp, 0, none⟩) wd wd, .int .i64 s.fr, .int .i64 0, .bool true] ?_
        clear H; intro _ _ H; dsimp only [setL, delL] at H
        refine RW.nil ?_
        refine ⟨rfl, _, _, _, 21, H, rfl, ?_⟩
        clear H; intro _ lq98 hq99 H
        dsimp only [setL, delL] at H
        refine W.rg [(9, .pointer (some ⟨b1, 0, none⟩)), (13, .pointer (some ⟨b2, 0, none⟩)), (17, .pointer (some ⟨b3, 0, none⟩)), (18, .pointer (some ⟨b97, 0, none⟩)), (54, .func (.func 50) #[] #[.pointer (some ⟨b6, 0, none⟩), .pointer (some ⟨b4, 0, none⟩), .pointer (some ⟨b7, 0, none⟩), .pointer (some ⟨b8, 0, none⟩), .pointer (some ⟨b5, 0, none⟩)]), (55, .agg #[.slice (some ⟨bc, 0, none⟩) wd wd, .slice (some ⟨bp, 0, none⟩) wd wd, .int .i64 s.fr, .int .i64 0, .bool true])] fun TA => ?_
        refine W.block ?_
        refine W.seq (W.region ?_)
        refine RW.ld H 28 1 ?_
        refine RW.len (by kernel_rfl) (by kernel_rfl) rfl rfl rfl rfl ((H.sl 8 rfl).len (by kernel_rfl)) (by kernel_rfl) ?_
        refine RW.v ?_
        refine RW.nil ?_
        refine W.rg [(9, .pointer (some ⟨b1, 0, none⟩)), (13, .pointer (some ⟨b2, 0, none⟩)), (17, .pointer (some ⟨b3, 0, none⟩)), (18, .pointer (some ⟨b97, 0, none⟩)), (19, .int .i64 ((R.length : Nat) : Int)), (54, .func (.func 50) #[] #[.pointer (some ⟨b6, 0, none⟩), .pointer (some ⟨b4, 0, none⟩), .pointer (some ⟨b7, 0, none⟩), .pointer (some ⟨b8, 0, none⟩), .pointer (some ⟨b5, 0, none⟩)]), (55, .agg #[.slice (some ⟨bc, 0, none⟩) wd wd, .slice (some ⟨bp, 0, none⟩) wd wd, .int .i64 s.fr, .int .i64 0, .bool true])] fun TA => ?_
        refine W.join (fun ta σ => ∃ (z0 : Unit), Lies G A F σ (.at_ b97 (.row ⟨[.slice (some ⟨bc, 0, none⟩) wd wd, .slice (some ⟨bp, 0, none⟩) wd wd, .int .i64 s.fr, .int .i64 0, .bool true], 39, false⟩) :: .at_ q (.row ⟨[.slice (some ⟨bc, 0, none⟩) wd wd, .slice (some ⟨bp, 0, none⟩) wd wd, .int .i64 s.fr, .int .i64 0, .bool true, .int .i64 (((wrapF s).n : Nat) : Int)], 99, false⟩) :: .at_ bc (.row ⟨cC (wrapF s).C, 79, false⟩) :: .at_ bp (.row ⟨(wrapF s).P.map (Value.int .i64), 3, false⟩) :: .at_ b57 (.row ⟨[uv, .int .i64 ps, .bool fd], 96, false⟩) :: .at_ b47 (.row ⟨[uv, .int .i64 ps, .bool fd], 96, false⟩) :: .at_ it42 (.iter ⟨(l.getD i default).s.toArray⟩ p2) :: .at_ b41 (.row ⟨[.int .i64 ((l.getD i default).k), .int .i64 ((l.getD i default).p), .int .i64 ((l.getD i default).t), .string ⟨((l.getD i default).s).toArray⟩, .int .i64 ((l.getD i default).b), .int .i64 ((l.getD i default).c), .bool ((l.getD i default).d), .bool ((l.getD i default).e), .bool ((l.getD i default).f)], 52, false⟩) :: .sl 39 5 u R.length (rowsV (csB wd B) (psB wd B) (tosX R s.fr)) :: .at_ b31 lq44 :: .at_ d30 (.defs true) :: .at_ b29 (.row ⟨[v1], 22, false⟩) :: .at_ b28 (.row ⟨[.int .i64 ((cn : Nat) : Int)], 3, false⟩) :: .at_ b27 (.row ⟨[.func (.yield b23) #[] #[]], 100, false⟩) :: .at_ b23 lq58 :: .at_ d22 (.defs true) :: .at_ b21 (.row ⟨[.int .i64 ((tab : Nat) : Int)], 3, false⟩) :: .at_ b20 (.row ⟨[v1], 22, false⟩) :: .at_ b19 (.row ⟨[.bool ov], 4, false⟩) :: .at_ b18 (.row ⟨[.pointer (some ⟨q, 0, none⟩)], 90, false⟩) :: .at_ b14 (.row ⟨[.func (.yield b10) #[] #[]], 89, false⟩) :: .at_ b10 lq98 :: .at_ d9 (.defs true) :: .at_ b8 (.row ⟨[.bool wrap], 4, false⟩) :: .at_ b7 (.row ⟨[.int .i64 ((tab : Nat) : Int)], 3, false⟩) :: .at_ b6 (.row ⟨[.int .i64 ((wd : Nat) : Int)], 3, false⟩) :: .at_ b5 (.row ⟨[.int .i64 to_], 3, false⟩) :: .at_ b4 (.row ⟨[v1], 22, false⟩) :: .at_ b3 (.row ⟨[u], 27, false⟩) :: .at_ b2 (.row ⟨[.int .i64 ((most : Nat) : Int)], 3, false⟩) :: .at_ b1 (.row ⟨[.int .i64 to_], 3, false⟩) :: ((REs B R ++ L))) ∧ ta 9 = .pointer (some ⟨b1, 0, none⟩) ∧ ta 13 = .pointer (some ⟨b2, 0, none⟩) ∧ ta 17 = .pointer (some ⟨b3, 0, none⟩) ∧ ta 18 = .pointer (some ⟨b97, 0, none⟩) ∧ ta 19 = .int .i64 ((R.length : Nat) : Int)) ?_ ?_
        ·refine W.seq (W.region ?_)
         iterate 2 refine RW.v ?_
         refine RW.nil ?_
         refine W.rg [(9, .pointer (some ⟨b1, 0, none⟩)), (13, .pointer (some ⟨b2, 0, none⟩)), (17, .pointer (some ⟨b3, 0, none⟩)), (18, .pointer (some ⟨b97, 0, none⟩)), (19, .int .i64 ((R.length : Nat) : Int)), (54, .func (.func 50) #[] #[.pointer (some ⟨b6, 0, none⟩), .pointer (some ⟨b4, 0, none⟩), .pointer (some ⟨b7, 0, none⟩), .pointer (some ⟨b8, 0, none⟩), .pointer (some ⟨b5, 0, none⟩)]), (55, .agg #[.slice (some ⟨bc, 0, none⟩) wd wd, .slice (some ⟨bp, 0, none⟩) wd wd, .int .i64 s.fr, .int .i64 0, .bool true]), (59, .bool (decide (((R.length : Nat) : Int) > 0)))] fun TA => ?_
         refine W.cond rfl (fun hc100 => ?_) (fun hc100 => ?_)
         ·have hc100b := hc100
          have hc100 := of_decide_eq_true hc100
          refine W.region ?_
          refine RW.ld H 28 1 ?_
          refine RW.v ?_
          refine RW.valE (v' := .int .i64 (((R.length : Nat) : Int) - 1)) (by kernel_rfl) (by kernel_rfl) rfl (congrArg (Value.int .i64) (wrap_in (by omega) (by omega))) (by kernel_rfl) ?_
          refine RW.v ?_
          refine RW.ld H 0 1 ?_
          refine RW.idxGS H 8 rfl (by kernel_rfl) (by kernel_rfl) rfl Tryd.underlying27 (by kernel_rfl) rfl rfl ⟨by omega, by omega⟩ (by kernel_rfl) ?_
          intro b101 q102 hb103 hq104
          refine RW.v ?_
          refine RW.stG H 8 rfl hb103 (vs := [.int .i64 s.fr]) (by show q102 + 3 + 1 ≤ R.length * 5; omega) (by kernel_rfl) (by kernel_rfl) rfl rfl rfl rfl (by kernel_rfl) (by kernel_rfl) ?_
          clear H; intro _ H
          dsimp only [setL, delL] at H
          replace H : Lies G A F _ (.at_ b97 (.row ⟨[.slice (some ⟨bc, 0, none⟩) wd wd, .slice (some ⟨bp, 0, none⟩) wd wd, .int .i64 s.fr, .int .i64 0, .bool true], 39, false⟩) :: .at_ q (.row ⟨[.slice (some ⟨bc, 0, none⟩) wd wd, .slice (some ⟨bp, 0, none⟩) wd wd, .int .i64 s.fr, .int .i64 0, .bool true, .int .i64 (((wrapF s).n : Nat) : Int)], 99, false⟩) :: .at_ bc (.row ⟨cC (wrapF s).C, 79, false⟩) :: .at_ bp (.row ⟨(wrapF s).P.map (Value.int .i64), 3, false⟩) :: .at_ b57 (.row ⟨[uv, .int .i64 ps, .bool fd], 96, false⟩) :: .at_ b47 (.row ⟨[uv, .int .i64 ps, .bool fd], 96, false⟩) :: .at_ it42 (.iter ⟨(l.getD i default).s.toArray⟩ p2) :: .at_ b41 (.row ⟨[.int .i64 ((l.getD i default).k), .int .i64 ((l.getD i default).p), .int .i64 ((l.getD i default).t), .string ⟨((l.getD i default).s).toArray⟩, .int .i64 ((l.getD i default).b), .int .i64 ((l.getD i default).c), .bool ((l.getD i default).d), .bool ((l.getD i default).e), .bool ((l.getD i default).f)], 52, false⟩) :: .sl 39 5 u R.length (overL (rowsV (csB wd B) (psB wd B) (tosX R to_)) (q102 + 3) [.int .i64 s.fr]) :: .at_ b31 lq44 :: .at_ d30 (.defs true) :: .at_ b29 (.row ⟨[v1], 22, false⟩) :: .at_ b28 (.row ⟨[.int .i64 ((cn : Nat) : Int)], 3, false⟩) :: .at_ b27 (.row ⟨[.func (.yield b23) #[] #[]], 100, false⟩) :: .at_ b23 lq58 :: .at_ d22 (.defs true) :: .at_ b21 (.row ⟨[.int .i64 ((tab : Nat) : Int)], 3, false⟩) :: .at_ b20 (.row ⟨[v1], 22, false⟩) :: .at_ b19 (.row ⟨[.bool ov], 4, false⟩) :: .at_ b18 (.row ⟨[.pointer (some ⟨q, 0, none⟩)], 90, false⟩) :: .at_ b14 (.row ⟨[.func (.yield b10) #[] #[]], 89, false⟩) :: .at_ b10 lq98 :: .at_ d9 (.defs true) :: .at_ b8 (.row ⟨[.bool wrap], 4, false⟩) :: .at_ b7 (.row ⟨[.int .i64 ((tab : Nat) : Int)], 3, false⟩) :: .at_ b6 (.row ⟨[.int .i64 ((wd : Nat) : Int)], 3, false⟩) :: .at_ b5 (.row ⟨[.int .i64 to_], 3, false⟩) :: .at_ b4 (.row ⟨[v1], 22, false⟩) :: .at_ b3 (.row ⟨[u], 27, false⟩) :: .at_ b2 (.row ⟨[.int .i64 ((most : Nat) : Int)], 3, false⟩) :: .at_ b1 (.row ⟨[.int .i64 to_], 3, false⟩) :: ((REs B R ++ L))) := H
          rw [show overL (rowsV (csB wd B) (psB wd B) (tosX R to_)) (q102 + 3) [.int .i64 s.fr] = rowsV (csB wd B) (psB wd B) (tosX R s.fr) by rw [hq104, show (((R.length : Nat) : Int) - 1).toNat * 5 + 3 = (R.length - 1) * 5 + 3 by omega]; exact rows_set hB (by omega)] at H
          refine RW.nil ?_
          exact ⟨rfl, rfl, (), H, rfl, rfl, rfl, rfl, rfl⟩
         ·have hc100b := hc100
          have hc100 := of_decide_eq_false hc100
          refine W.skip ?_
          have hR0 : R = [] := List.eq_nil_of_length_eq_zero (by omega)
          rw [show tosX R to_ = tosX R s.fr by rw [hR0]; rfl] at H
          exact ⟨rfl, rfl, (), H, rfl, rfl, rfl, rfl, rfl⟩
        clear H
        rintro ta _ ⟨z0, H, e9, e13, e17, e18, e19⟩
        refine W.rst [(9, .pointer (some ⟨b1, 0, none⟩)), (13, .pointer (some ⟨b2, 0, none⟩)), (17, .pointer (some ⟨b3, 0, none⟩)), (18, .pointer (some ⟨b97, 0, none⟩)), (19, .int .i64 ((R.length : Nat) : Int))] ⟨e9, e13, e17, e18, e19, trivial⟩ fun TA => ?_
        clear e9 e13 e17 e18 e19
        refine W.seq ?_
        refine W.seq (W.region ?_)
        refine RW.v ?_
        refine RW.ld H 29 1 ?_
        refine RW.v ?_
        refine RW.nil ?_
        refine W.rg [(9, .pointer (some ⟨b1, 0, none⟩)), (13, .pointer (some ⟨b2, 0, none⟩)), (17, .pointer (some ⟨b3, 0, none⟩)), (18, .pointer (some ⟨b97, 0, none⟩)), (69, .bool (((R.length : Nat) : Int) == ((most : Nat) : Int)))] fun TA => ?_
        refine W.cond rfl (fun hc105 => ?_) (fun hc105 => ?_)
        ·have hc105b := hc105
         have hc105 := eq_of_beq hc105
         have hne : R.length = most := by omega
         rw [stop_wrap hc92b hc95b hne] at hT
         refine W.exit _ ?_
         refine seqQ_exit ?_
         refine blkQ_out rfl ?_
         refine ⟨_, _, _, 21, false, .done, (some (.exit 0)), H, rfl, rfl, ?_⟩
         clear H; intro _ lr106 hr107 H
         dsimp only [setL, delL] at H
         have H108 := H
         refine RW.v ?_
         refine RW.nil ?_
         refine ⟨⟨by kernel_rfl, ⟨dyn_row (H96.get 19 rfl) (H108.get 20 rfl) ⟨nB, nB, nB, nB, nB, fun _ => H96.get 19 rfl, nB, trivial⟩, dyn_row (H96.get 18 rfl) (H108.get 19 rfl) ⟨nB, nB, nB, nB, nB, fun _ => H96.get 18 rfl, nB, trivial⟩, trivial, trivial, dyn_row (H96.get 0 rfl) (H108.get 1 rfl) ⟨nB, nB, nB, nB, nB, fun _ => H96.get 0 rfl, nB, trivial⟩, trivial, trivial, trivial⟩⟩, ?_⟩
         replace H := H108
         clear H96 H108
         replace H := (H.del 0)
         dsimp only [setL, delL] at H
         refine W.c1 ?_
         refine W.ret ?_
         refine seqQ_ret ?_
         refine blkQ_ret ?_
         refine blkQ_ret ?_
         refine ⟨_, _, _, 13, false, .done, (some .ret), H, rfl, rfl, ?_⟩
         clear H; intro _ lr109 _ hr110 H
         dsimp only [setL, delL] at H
         refine RW.v ?_
         refine RW.nil ?_
         replace H := (H.del 3)
         dsimp only [setL, delL] at H
         refine W.c1 ?_
         refine W.ret ?_
         refine blkQ_ret ?_
         refine seqQ_ret ?_
         refine rndQ_ret ?_
         refine blkQ_ret ?_
         refine seqQ_ret ?_
         refine blkQ_ret ?_
         refine ⟨_, _, _, 7, false, .done, (some .ret), H, rfl, rfl, ?_⟩
         clear H; intro _ lr111 _ hr112 H
         dsimp only [setL, delL] at H
         refine RW.v ?_
         refine RW.nil ?_
         replace H := (H.del 3)
         dsimp only [setL, delL] at H
         refine W.c1 ?_
         refine W.ret ?_
         refine seqQ_ret ?_
         refine blkQ_ret ?_
         refine rndQ_ret ?_
         refine blkQ_ret ?_
         refine blkQ_ret ?_
         refine seqQ_ret ?_
         refine rndQ_ret ?_
         refine blkQ_ret ?_
         refine endG (by rfl) (by exact rfl) ?_
         refine ⟨_, _, _, 6, _, _, _, _, H, rfl, hr112, rfl, rfl, ?_⟩
         clear H; intro _ H
         dsimp only [setL, delL] at H
         refine blkQ_ret ?_
         refine endMark H 6 rfl fun _ H => ?_
         dsimp only [setL, delL] at H
         refine endGD0 (by rfl) (by exact rfl) ?_
         refine ⟨_, _, _, 9, _, _, _, _, H, rfl, hr110, rfl, rfl, ?_⟩
         clear H; intro _ H
         dsimp only [setL, delL] at H
         refine blkQ_ret ?_
         refine seqQ_ret ?_
         refine endMark H 9 rfl fun _ H => ?_
         dsimp only [setL, delL] at H
         refine endGD0 (by rfl) (by exact rfl) ?_
         refine ⟨_, _, _, 14, _, _, _, _, H, rfl, hr107, rfl, rfl, ?_⟩
         clear H; intro _ H
         dsimp only [setL, delL] at H
         refine blkQ_here ?_
         refine W.seq (W.region ?_)
         refine RW.ld H 20 1 ?_
         iterate 2 refine RW.v ?_
         refine RW.nil ?_
         replace H := (((((((((((((((((((((H.del 22).del 21).del 20).del 19).del 18).del 17).del 16).del 15).del 13).del 12).del 11).del 10).del 9).del 8).del 7).del 6).del 4).del 3).del 2).del 1).del 0)
         dsimp only [setL, delL] at H
         refine W.ret ?_
         refine ⟨rfl, ?_⟩
         refine endMark H 1 rfl fun _ H => ?_
         dsimp only [setL, delL] at H
         refine endGD0 (by rfl) (by exact resL_tmp (by exact resL_tmp rfl)) ?_
         subst hT
         exact ⟨F, u, B, le0, rfl, hB, H⟩
        ·have hc105b := hc105
         have hc105 := ne_of_beq_false hc105
         have hne : R.length ≠ most := by omega
         rw [go_wrap hc92b hc95b hne] at hT
         refine W.skip ?_
         refine W.seq (W.region ?_)
         refine RW.ld H 30 1 ?_
         refine RW.v ?_
         refine RW.st H 0 [.int .i64 to_] [.slice (some ⟨bc, 0, none⟩) wd wd, .slice (some ⟨bp, 0, none⟩) wd wd, .int .i64 s.fr, .int .i64 to_, .bool true] ?_
         clear H; intro _ _ H; dsimp only [setL, delL] at H
         refine RW.nil ?_
         refine W.rg [(9, .pointer (some ⟨b1, 0, none⟩)), (13, .pointer (some ⟨b2, 0, none⟩)), (17, .pointer (some ⟨b3, 0, none⟩)), (18, .pointer (some ⟨b97, 0, none⟩))] fun TA => ?_
         refine W.region ?_
         refine RW.ld H 28 1 ?_
         refine RW.ld H 0 5 ?_
         refine RW.mkL H (x := .row ⟨[.slice (some ⟨bc, 0, none⟩) wd wd, .slice (some ⟨bp, 0, none⟩) wd wd, .int .i64 s.fr, .int .i64 to_, .bool true], 39, false⟩) (fm := fun b => .slice (some ⟨b, 0, none⟩) 1 1) (by kernel_rfl) (by kernel_rfl) (by kernel_rfl) (by kernel_rfl) ?_
         clear H; intro _ b113 _ H
         refine RW.appLB H 9 0 (n := 1) (e2 := 39) (by kernel_rfl) (by kernel_rfl) rfl rfl rfl rfl rfl rfl rfl (.inl rfl) rfl (by kernel_rfl) (by kernel_rfl) (by kernel_rfl) (by decide) (by decide) rfl rfl (by omega) (by kernel_rfl) ?_
         clear H; intro _ v114 H
         dsimp only [setL, delL] at H
         refine RW.stL H 28 (vs := [v114]) (cs' := [v114]) (by kernel_rfl) (by kernel_rfl) rfl rfl rfl (H.sl 8 rfl).one (gr_all (H.sl 8 rfl)) (by kernel_rfl) (Nat.le_of_ble_eq_true rfl) rfl (by kernel_rfl) ?_
         clear H; intro _ _ H; dsimp only [setL, delL] at H
         replace H := H.front 3 rfl
         dsimp only [delL] at H
         replace H := H.front 3 rfl
         dsimp only [delL] at H
         replace H := RE_push (X := [.at_ b97 (.row ⟨[.slice (some ⟨bc, 0, none⟩) wd wd, .slice (some ⟨bp, 0, none⟩) wd wd, .int .i64 s.fr, .int .i64 to_, .bool true], 39, false⟩), .at_ q (.row ⟨[.slice (some ⟨bc, 0, none⟩) wd wd, .slice (some ⟨bp, 0, none⟩) wd wd, .int .i64 s.fr, .int .i64 0, .bool true, .int .i64 (((wrapF s).n : Nat) : Int)], 99, false⟩), .at_ b57 (.row ⟨[uv, .int .i64 ps, .bool fd], 96, false⟩), .at_ b47 (.row ⟨[uv, .int .i64 ps, .bool fd], 96, false⟩), .at_ it42 (.iter ⟨(l.getD i default).s.toArray⟩ p2), .at_ b41 (.row ⟨[.int .i64 ((l.getD i default).k), .int .i64 ((l.getD i default).p), .int .i64 ((l.getD i default).t), .string ⟨((l.getD i default).s).toArray⟩, .int .i64 ((l.getD i default).b), .int .i64 ((l.getD i default).c), .bool ((l.getD i default).d), .bool ((l.getD i default).e), .bool ((l.getD i default).f)], 52, false⟩), .sl 39 5 v114 (R.length + 1) (rowsV (csB wd B) (psB wd B) (tosX R s.fr) ++ [.slice (some ⟨bc, 0, none⟩) wd wd, .slice (some ⟨bp, 0, none⟩) wd wd, .int .i64 s.fr, .int .i64 to_, .bool true]), .at_ b31 lq44, .at_ d30 (.defs true), .at_ b29 (.row ⟨[v1], 22, false⟩), .at_ b28 (.row ⟨[.int .i64 ((cn : Nat) : Int)], 3, false⟩), .at_ b27 (.row ⟨[.func (.yield b23) #[] #[]], 100, false⟩), .at_ b23 lq58, .at_ d22 (.defs true), .at_ b21 (.row ⟨[.int .i64 ((tab : Nat) : Int)], 3, false⟩), .at_ b20 (.row ⟨[v1], 22, false⟩), .at_ b19 (.row ⟨[.bool ov], 4, false⟩), .at_ b18 (.row ⟨[.pointer (some ⟨q, 0, none⟩)], 90, false⟩), .at_ b14 (.row ⟨[.func (.yield b10) #[] #[]], 89, false⟩), .at_ b10 lq98, .at_ d9 (.defs true), .at_ b8 (.row ⟨[.bool wrap], 4, false⟩), .at_ b7 (.row ⟨[.int .i64 ((tab : Nat) : Int)], 3, false⟩), .at_ b6 (.row ⟨[.int .i64 ((wd : Nat) : Int)], 3, false⟩), .at_ b5 (.row ⟨[.int .i64 to_], 3, false⟩), .at_ b4 (.row ⟨[v1], 22, false⟩), .at_ b3 (.row ⟨[v114], 27, false⟩), .at_ b2 (.row ⟨[.int .i64 ((most : Nat) : Int)], 3, false⟩), .at_ b1 (.row ⟨[.int .i64 to_], 3, false⟩)]) (r := rowOf (wrapF s)) hB H
         rw [show rowsV (csB wd B) (psB wd B) (tosX R s.fr) ++ [.slice (some ⟨bc, 0, none⟩) wd wd, .slice (some ⟨bp, 0, none⟩) wd wd, .int .i64 s.fr, .int .i64 to_, .bool true] = rowsV (csB wd (B ++ [(bc, bp)])) (psB wd (B ++ [(bc, bp)])) (tosX (R ++ [rowOf (wrapF s)]) to_) from rowsV_push (r := rowOf (wrapF s)) hB, show R.length + 1 = (R ++ [rowOf (wrapF s)]).length from by rw [List.length_append]; rfl] at H
         replace H : Lies G A F _ (.at_ b97 (.row ⟨[.slice (some ⟨bc, 0, none⟩) wd wd, .slice (some ⟨bp, 0, none⟩) wd wd, .int .i64 s.fr, .int .i64 to_, .bool true], 39, false⟩) :: .at_ q (.row ⟨[.slice (some ⟨bc, 0, none⟩) wd wd, .slice (some ⟨bp, 0, none⟩) wd wd, .int .i64 s.fr, .int .i64 0, .bool true, .int .i64 (((wrapF s).n : Nat) : Int)], 99, false⟩) :: .at_ b57 (.row ⟨[uv, .int .i64 ps, .bool fd], 96, false⟩) :: .at_ b47 (.row ⟨[uv, .int .i64 ps, .bool fd], 96, false⟩) :: .at_ it42 (.iter ⟨(l.getD i default).s.toArray⟩ p2) :: .at_ b41 (.row ⟨[.int .i64 ((l.getD i default).k), .int .i64 ((l.getD i default).p), .int .i64 ((l.getD i default).t), .string ⟨((l.getD i default).s).toArray⟩, .int .i64 ((l.getD i default).b), .int .i64 ((l.getD i default).c), .bool ((l.getD i default).d), .bool ((l.getD i default).e), .bool ((l.getD i default).f)], 52, false⟩) :: .sl 39 5 v114 ((R ++ [rowOf (wrapF s)]).length) (rowsV (csB wd (B ++ [(bc, bp)])) (psB wd (B ++ [(bc, bp)])) (tosX (R ++ [rowOf (wrapF s)]) to_)) :: .at_ b31 lq44 :: .at_ d30 (.defs true) :: .at_ b29 (.row ⟨[v1], 22, false⟩) :: .at_ b28 (.row ⟨[.int .i64 ((cn : Nat) : Int)], 3, false⟩) :: .at_ b27 (.row ⟨[.func (.yield b23) #[] #[]], 100, false⟩) :: .at_ b23 lq58 :: .at_ d22 (.defs true) :: .at_ b21 (.row ⟨[.int .i64 ((tab : Nat) : Int)], 3, false⟩) :: .at_ b20 (.row ⟨[v1], 22, false⟩) :: .at_ b19 (.row ⟨[.bool ov], 4, false⟩) :: .at_ b18 (.row ⟨[.pointer (some ⟨q, 0, none⟩)], 90, false⟩) :: .at_ b14 (.row ⟨[.func (.yield b10) #[] #[]], 89, false⟩) :: .at_ b10 lq98 :: .at_ d9 (.defs true) :: .at_ b8 (.row ⟨[.bool wrap], 4, false⟩) :: .at_ b7 (.row ⟨[.int .i64 ((tab : Nat) : Int)], 3, false⟩) :: .at_ b6 (.row ⟨[.int .i64 ((wd : Nat) : Int)], 3, false⟩) :: .at_ b5 (.row ⟨[.int .i64 to_], 3, false⟩) :: .at_ b4 (.row ⟨[v1], 22, false⟩) :: .at_ b3 (.row ⟨[v114], 27, false⟩) :: .at_ b2 (.row ⟨[.int .i64 ((most : Nat) : Int)], 3, false⟩) :: .at_ b1 (.row ⟨[.int .i64 to_], 3, false⟩) :: ((REs (B ++ [(bc, bp)]) (R ++ [rowOf (wrapF s)]) ++ L))) := H
         refine RW.nil ?_
         replace H := (H.del 0)
         dsimp only [setL, delL] at H
         refine blkQ_normal ?_
         refine ⟨_, _, _, 18, true, .ready, none, H, rfl, rfl, ?_⟩
         clear H; intro _ lr115 hr116 H
         dsimp only [setL, delL] at H
         have H117 := H
         refine RW.v ?_
         refine RW.nil ?_
         refine ⟨⟨by kernel_rfl, ⟨dyn_row (H96.get 19 rfl) (H117.get 17 rfl) ⟨nB, nB, nB, nB, nB, fun _ => H96.get 19 rfl, nB, trivial⟩, dyn_row (H96.get 18 rfl) (H117.get 16 rfl) ⟨nB, nB, nB, nB, nB, fun _ => H96.get 18 rfl, nB, trivial⟩, trivial, trivial, dyn_row (H96.get 0 rfl) (H117.get 0 rfl) ⟨nB, nB, nB, nB, nB, fun _ => H96.get 0 rfl, nB, trivial⟩, trivial, trivial, trivial⟩⟩, ?_⟩
         replace H := H117
         clear H96 H117
         refine W.c0 ?_
         refine W.skip ?_
         refine W.seq (W.region ?_)
         refine RW.ld H 22 1 ?_
         refine RW.cl ?_
         refine ((fill_wc (wd := wd) (by omega) (by omega) H).mono ?_)
         clear H
         rintro _ _ ⟨q118, bc119, bp120, rfl, H⟩
         replace H : Lies G A F _ (.at_ q118 (.row ⟨[.slice (some ⟨bc119, 0, none⟩) wd wd, .slice (some ⟨bp120, 0, none⟩) wd wd, .int .i64 ((fil0 wd).fr), .int .i64 0, .bool ((fil0 wd).co), .int .i64 (((fil0 wd).n : Nat) : Int)], 99, false⟩) :: .at_ bc119 (.row ⟨cC (fil0 wd).C, 79, false⟩) :: .at_ bp120 (.row ⟨(fil0 wd).P.map (Value.int .i64), 3, false⟩) :: .at_ q (.row ⟨[.slice (some ⟨bc, 0, none⟩) wd wd, .slice (some ⟨bp, 0, none⟩) wd wd, .int .i64 s.fr, .int .i64 0, .bool true, .int .i64 (((wrapF s).n : Nat) : Int)], 99, false⟩) :: .at_ b57 (.row ⟨[uv, .int .i64 ps, .bool fd], 96, false⟩) :: .at_ b47 (.row ⟨[uv, .int .i64 ps, .bool fd], 96, false⟩) :: .at_ it42 (.iter ⟨(l.getD i default).s.toArray⟩ p2) :: .at_ b41 (.row ⟨[.int .i64 ((l.getD i default).k), .int .i64 ((l.getD i default).p), .int .i64 ((l.getD i default).t), .string ⟨((l.getD i default).s).toArray⟩, .int .i64 ((l.getD i default).b), .int .i64 ((l.getD i default).c), .bool ((l.getD i default).d), .bool ((l.getD i default).e), .bool ((l.getD i default).f)], 52, false⟩) :: .sl 39 5 v114 ((R ++ [rowOf (wrapF s)]).length) (rowsV (csB wd (B ++ [(bc, bp)])) (psB wd (B ++ [(bc, bp)])) (tosX (R ++ [rowOf (wrapF s)]) to_)) :: .at_ b31 lq44 :: .at_ d30 (.defs true) :: .at_ b29 (.row ⟨[v1], 22, false⟩) :: .at_ b28 (.row ⟨[.int .i64 ((cn : Nat) : Int)], 3, false⟩) :: .at_ b27 (.row ⟨[.func (.yield b23) #[] #[]], 100, false⟩) :: .at_ b23 lq58 :: .at_ d22 (.defs true) :: .at_ b21 (.row ⟨[.int .i64 ((tab : Nat) : Int)], 3, false⟩) :: .at_ b20 (.row ⟨[v1], 22, false⟩) :: .at_ b19 (.row ⟨[.bool ov], 4, false⟩) :: .at_ b18 (.row ⟨[.pointer (some ⟨q, 0, none⟩)], 90, false⟩) :: .at_ b14 (.row ⟨[.func (.yield b10) #[] #[]], 89, false⟩) :: .at_ b10 lr115 :: .at_ d9 (.defs true) :: .at_ b8 (.row ⟨[.bool wrap], 4, false⟩) :: .at_ b7 (.row ⟨[.int .i64 ((tab : Nat) : Int)], 3, false⟩) :: .at_ b6 (.row ⟨[.int .i64 ((wd : Nat) : Int)], 3, false⟩) :: .at_ b5 (.row ⟨[.int .i64 to_], 3, false⟩) :: .at_ b4 (.row ⟨[v1], 22, false⟩) :: .at_ b3 (.row ⟨[v114], 27, false⟩) :: .at_ b2 (.row ⟨[.int .i64 ((most : Nat) : Int)], 3, false⟩) :: .at_ b1 (.row ⟨[.int .i64 to_], 3, false⟩) :: ((REs (B ++ [(bc, bp)]) (R ++ [rowOf (wrapF s)]) ++ L))) := H
         refine RW.st H 19 [pt q118] [pt q118] ?_
         clear H; intro _ _ H; dsimp only [setL, delL] at H
         refine RW.nil ?_
         replace H := (H.del 3)
         dsimp only [setL, delL] at H
         refine W.rg [(1, .pointer (some ⟨b6, 0, none⟩)), (4, .pointer (some ⟨b8, 0, none⟩)), (5, .pointer (some ⟨b5, 0, none⟩)), (6, .pointer (some ⟨b14, 0, none⟩)), (7, .pointer (some ⟨b18, 0, none⟩)), (8, .pointer (some ⟨b19, 0, none⟩)), (9, .pointer (some ⟨b57, 0, none⟩)), (14, .func (.func 65) #[] #[.pointer (some ⟨b20, 0, none⟩), .pointer (some ⟨b21, 0, none⟩)]), (15, .agg #[uv, .int .i64 ps, .bool fd])] fun TA => ?_
         refine W.region ?_
         refine RW.ld H 18 1 ?_
         refine RW.ld H 3 3 ?_
         replace H := H.front 2 rfl
         dsimp only [delL] at H
         replace H := H.front 2 rfl
         dsimp only [delL] at H
         replace H := H.front 2 rfl
         dsimp only [delL] at H
         refine RW.cl ?_
         refine ((put_wc (ok_fil0 (by omega)) (by omega) hX hXl (show Lies G A F _ (FE q118 bc119 bp120 wd (fil0 wd) ++ (.at_ b57 (.row ⟨[uv, .int .i64 ps, .bool fd], 96, false⟩) :: .at_ b47 (.row ⟨[uv, .int .i64 ps, .bool fd], 96, false⟩) :: .at_ it42 (.iter ⟨(l.getD i default).s.toArray⟩ p2) :: .at_ b41 (.row ⟨[.int .i64 ((l.getD i default).k), .int .i64 ((l.getD i default).p), .int .i64 ((l.getD i default).t), .string ⟨((l.getD i default).s).toArray⟩, .int .i64 ((l.getD i default).b), .int .i64 ((l.getD i default).c), .bool ((l.getD i default).d), .bool ((l.getD i default).e), .bool ((l.getD i default).f)], 52, false⟩) :: .sl 39 5 v114 ((R ++ [rowOf (wrapF s)]).length) (rowsV (csB wd (B ++ [(bc, bp)])) (psB wd (B ++ [(bc, bp)])) (tosX (R ++ [rowOf (wrapF s)]) to_)) :: .at_ b31 lq44 :: .at_ d30 (.defs true) :: .at_ b29 (.row ⟨[v1], 22, false⟩) :: .at_ b28 (.row ⟨[.int .i64 ((cn : Nat) : Int)], 3, false⟩) :: .at_ b27 (.row ⟨[.func (.yield b23) #[] #[]], 100, false⟩) :: .at_ b23 lq58 :: .at_ d22 (.defs true) :: .at_ b21 (.row ⟨[.int .i64 ((tab : Nat) : Int)], 3, false⟩) :: .at_ b20 (.row ⟨[v1], 22, false⟩) :: .at_ b19 (.row ⟨[.bool ov], 4, false⟩) :: .at_ b18 (.row ⟨[.pointer (some ⟨q118, 0, none⟩)], 90, false⟩) :: .at_ b14 (.row ⟨[.func (.yield b10) #[] #[]], 89, false⟩) :: .at_ b10 lr115 :: .at_ d9 (.defs true) :: .at_ b8 (.row ⟨[.bool wrap], 4, false⟩) :: .at_ b7 (.row ⟨[.int .i64 ((tab : Nat) : Int)], 3, false⟩) :: .at_ b6 (.row ⟨[.int .i64 ((wd : Nat) : Int)], 3, false⟩) :: .at_ b5 (.row ⟨[.int .i64 to_], 3, false⟩) :: .at_ b4 (.row ⟨[v1], 22, false⟩) :: .at_ b3 (.row ⟨[v114], 27, false⟩) :: .at_ b2 (.row ⟨[.int .i64 ((most : Nat) : Int)], 3, false⟩) :: .at_ b1 (.row ⟨[.int .i64 to_], 3, false⟩) :: ((REs (B ++ [(bc, bp)]) (R ++ [rowOf (wrapF s)]) ++ L)))) from H)).mono ?_)
         clear H
         rintro _ _ ⟨rfl, H⟩
         replace H : Lies G A F _ (.at_ q118 (.row ⟨[.slice (some ⟨bc119, 0, none⟩) wd wd, .slice (some ⟨bp120, 0, none⟩) wd wd, .int .i64 ((putF wd (fil0 wd) XS ps).1.fr), .int .i64 0, .bool ((putF wd (fil0 wd) XS ps).1.co), .int .i64 (((putF wd (fil0 wd) XS ps).1.n : Nat) : Int)], 99, false⟩) :: .at_ bc119 (.row ⟨cC (putF wd (fil0 wd) XS ps).1.C, 79, false⟩) :: .at_ bp120 (.row ⟨(putF wd (fil0 wd) XS ps).1.P.map (Value.int .i64), 3, false⟩) :: .at_ b57 (.row ⟨[uv, .int .i64 ps, .bool fd], 96, false⟩) :: .at_ b47 (.row ⟨[uv, .int .i64 ps, .bool fd], 96, false⟩) :: .at_ it42 (.iter ⟨(l.getD i default).s.toArray⟩ p2) :: .at_ b41 (.row ⟨[.int .i64 ((l.getD i default).k), .int .i64 ((l.getD i default).p), .int .i64 ((l.getD i default).t), .string ⟨((l.getD i default).s).toArray⟩, .int .i64 ((l.getD i default).b), .int .i64 ((l.getD i default).c), .bool ((l.getD i default).d), .bool ((l.getD i default).e), .bool ((l.getD i default).f)], 52, false⟩) :: .sl 39 5 v114 ((R ++ [rowOf (wrapF s)]).length) (rowsV (csB wd (B ++ [(bc, bp)])) (psB wd (B ++ [(bc, bp)])) (tosX (R ++ [rowOf (wrapF s)]) to_)) :: .at_ b31 lq44 :: .at_ d30 (.defs true) :: .at_ b29 (.row ⟨[v1], 22, false⟩) :: .at_ b28 (.row ⟨[.int .i64 ((cn : Nat) : Int)], 3, false⟩) :: .at_ b27 (.row ⟨[.func (.yield b23) #[] #[]], 100, false⟩) :: .at_ b23 lq58 :: .at_ d22 (.defs true) :: .at_ b21 (.row ⟨[.int .i64 ((tab : Nat) : Int)], 3, false⟩) :: .at_ b20 (.row ⟨[v1], 22, false⟩) :: .at_ b19 (.row ⟨[.bool ov], 4, false⟩) :: .at_ b18 (.row ⟨[.pointer (some ⟨q118, 0, none⟩)], 90, false⟩) :: .at_ b14 (.row ⟨[.func (.yield b10) #[] #[]], 89, false⟩) :: .at_ b10 lr115 :: .at_ d9 (.defs true) :: .at_ b8 (.row ⟨[.bool wrap], 4, false⟩) :: .at_ b7 (.row ⟨[.int .i64 ((tab : Nat) : Int)], 3, false⟩) :: .at_ b6 (.row ⟨[.int .i64 ((wd : Nat) : Int)], 3, false⟩) :: .at_ b5 (.row ⟨[.int .i64 to_], 3, false⟩) :: .at_ b4 (.row ⟨[v1], 22, false⟩) :: .at_ b3 (.row ⟨[v114], 27, false⟩) :: .at_ b2 (.row ⟨[.int .i64 ((most : Nat) : Int)], 3, false⟩) :: .at_ b1 (.row ⟨[.int .i64 to_], 3, false⟩) :: ((REs (B ++ [(bc, bp)]) (R ++ [rowOf (wrapF s)]) ++ L))) := H
         refine RW.nil ?_
         replace H := (H.del 3)
         dsimp only [setL, delL] at H
         refine blkQ_normal ?_
         refine blkQ_normal ?_
         refine ⟨_, _, _, 12, true, .ready, none, H, rfl, rfl, ?_⟩
         clear H; intro _ lr121 _ hr122 H
         dsimp only [setL, delL] at H
         refine RW.v ?_
         refine RW.nil ?_
         refine W.c0 ?_
         refine W.skip ?_
         refine blkQ_normal ?_
         refine W.region ?_
         refine RW.valE (v' := .int .i64 (((j : Nat) : Int) + 1)) (by kernel_rfl) (by kernel_rfl) rfl (congrArg (Value.int .i64) (wrap_in (by omega) (by omega))) (by kernel_rfl) ?_
         refine RW.v ?_
         refine RW.nil ?_
         rw [show lr121 = lp24 from hr122.trans hl25.symm] at H
         rw [show lr115 = lp11 from hr116.trans hl12.symm] at H
         replace H := H.front 28 rfl
         dsimp only [delL] at H
         replace H := H.front 28 rfl
         dsimp only [delL] at H
         replace H := H.front 28 rfl
         dsimp only [delL] at H
         replace H := H.front 28 rfl
         dsimp only [delL] at H
         replace H := H.front 28 rfl
         dsimp only [delL] at H
         replace H := H.front 28 rfl
         dsimp only [delL] at H
         replace H := H.front 28 rfl
         dsimp only [delL] at H
         replace H := H.front 28 rfl
         dsimp only [delL] at H
         replace H := H.front 28 rfl
         dsimp only [delL] at H
         replace H := H.front 28 rfl
         dsimp only [delL] at H
         replace H := H.front 28 rfl
         dsimp only [delL] at H
         replace H := H.front 13 rfl
         dsimp only [delL] at H
         replace H := H.front 13 rfl
         dsimp only [delL] at H
         replace H := H.front 13 rfl
         dsimp only [delL] at H
         replace H := H.front 28 rfl
         dsimp only [delL] at H
         replace H := H.front 28 rfl
         dsimp only [delL] at H
         replace H := H.front 28 rfl
         dsimp only [delL] at H
         replace H := H.front 28 rfl
         dsimp only [delL] at H
         replace H := H.front 28 rfl
         dsimp only [delL] at H
         replace H := H.front 28 rfl
         dsimp only [delL] at H
         replace H := H.front 28 rfl
         dsimp only [delL] at H
         replace H := H.front 28 rfl
         dsimp only [delL] at H
         replace H := H.front 28 rfl
         dsimp only [delL] at H
         replace H := H.front 28 rfl
         dsimp only [delL] at H
         replace H := H.front 28 rfl
         dsimp only [delL] at H
         replace H := H.front 28 rfl
         dsimp only [delL] at H
         replace H := H.front 28 rfl
         dsimp only [delL] at H
         replace H := H.front 28 rfl
         dsimp only [delL] at H
         replace H := H.front 28 rfl
         dsimp only [delL] at H
         exact ⟨rfl, mm3 - 1, by omega, j + 1, v114, (B ++ [(bc, bp)]), (R ++ [rowOf (wrapF s)]), q118, bc119, bp120, (putF wd (fil0 wd) XS ps).1, ov, (by omega), (by rw [List.length_append, List.length_append, hB]; rfl), (by rw [List.length_append, List.length_singleton]; omega), (ok_put (ok_fil0 (by omega))), (by rw [hc60b, hc89b]; exact hT), H, rfl, rfl, rfl, rfl, rfl, rfl⟩
       ·have hc95b := hc95
        rw [go_cut hc92b hc95b] at hT
        refine W.seq (W.region ?_)
        refine RW.ld H 18 1 ?_
        replace H := H.front 2 rfl
        dsimp only [delL] at H
        replace H := H.front 2 rfl
        dsimp only [delL] at H
        replace H := H.front 2 rfl
        dsimp only [delL] at H
        refine RW.cl ?_
        refine ((mark_wc (c := 36) ok (by omega) (show Lies G A F _ (FE q bc bp wd s ++ (.at_ b57 (.row ⟨[uv, .int .i64 ps, .bool fd], 96, false⟩) :: .at_ b47 (.row ⟨[uv, .int .i64 ps, .bool fd], 96, false⟩) :: .at_ it42 (.iter ⟨(l.getD i default).s.toArray⟩ p2) :: .at_ b41 (.row ⟨[.int .i64 ((l.getD i default).k), .int .i64 ((l.getD i default).p), .int .i64 ((l.getD i default).t), .string ⟨((l.getD i default).s).toArray⟩, .int .i64 ((l.getD i default).b), .int .i64 ((l.getD i default).c), .bool ((l.getD i default).d), .bool ((l.getD i default).e), .bool ((l.getD i default).f)], 52, false⟩) :: .sl 39 5 u R.length (rowsV (csB wd B) (psB wd B) (tosX R to_)) :: .at_ b31 lq44 :: .at_ d30 (.defs true) :: .at_ b29 (.row ⟨[v1], 22, false⟩) :: .at_ b28 (.row ⟨[.int .i64 ((cn : Nat) : Int)], 3, false⟩) :: .at_ b27 (.row ⟨[.func (.yield b23) #[] #[]], 100, false⟩) :: .at_ b23 lq58 :: .at_ d22 (.defs true) :: .at_ b21 (.row ⟨[.int .i64 ((tab : Nat) : Int)], 3, false⟩) :: .at_ b20 (.row ⟨[v1], 22, false⟩) :: .at_ b19 (.row ⟨[.bool ov], 4, false⟩) :: .at_ b18 (.row ⟨[.pointer (some ⟨q, 0, none⟩)], 90, false⟩) :: .at_ b14 (.row ⟨[.func (.yield b10) #[] #[]], 89, false⟩) :: .at_ b10 lp11 :: .at_ d9 (.defs true) :: .at_ b8 (.row ⟨[.bool wrap], 4, false⟩) :: .at_ b7 (.row ⟨[.int .i64 ((tab : Nat) : Int)], 3, false⟩) :: .at_ b6 (.row ⟨[.int .i64 ((wd : Nat) : Int)], 3, false⟩) :: .at_ b5 (.row ⟨[.int .i64 to_], 3, false⟩) :: .at_ b4 (.row ⟨[v1], 22, false⟩) :: .at_ b3 (.row ⟨[u], 27, false⟩) :: .at_ b2 (.row ⟨[.int .i64 ((most : Nat) : Int)], 3, false⟩) :: .at_ b1 (.row ⟨[.int .i64 to_], 3, false⟩) :: ((REs B R ++ L)))) from H)).mono ?_)
        clear H
        intro _ _ H
        replace H : Lies G A F _ (.at_ q (.row ⟨[.slice (some ⟨bc, 0, none⟩) wd wd, .slice (some ⟨bp, 0, none⟩) wd wd, .int .i64 ((markF s 36).fr), .int .i64 0, .bool ((markF s 36).co), .int .i64 (((markF s 36).n : Nat) : Int)], 99, false⟩) :: .at_ bc (.row ⟨cC (markF s 36).C, 79, false⟩) :: .at_ bp (.row ⟨(markF s 36).P.map (Value.int .i64), 3, false⟩) :: .at_ b57 (.row ⟨[uv, .int .i64 ps, .bool fd], 96, false⟩) :: .at_ b47 (.row ⟨[uv, .int .i64 ps, .bool fd], 96, false⟩) :: .at_ it42 (.iter ⟨(l.getD i default).s.toArray⟩ p2) :: .at_ b41 (.row ⟨[.int .i64 ((l.getD i default).k), .int .i64 ((l.getD i default).p), .int .i64 ((l.getD i default).t), .string ⟨((l.getD i default).s).toArray⟩, .int .i64 ((l.getD i default).b), .int .i64 ((l.getD i default).c), .bool ((l.getD i default).d), .bool ((l.getD i default).e), .bool ((l.getD i default).f)], 52, false⟩) :: .sl 39 5 u R.length (rowsV (csB wd B) (psB wd B) (tosX R to_)) :: .at_ b31 lq44 :: .at_ d30 (.defs true) :: .at_ b29 (.row ⟨[v1], 22, false⟩) :: .at_ b28 (.row ⟨[.int .i64 ((cn : Nat) : Int)], 3, false⟩) :: .at_ b27 (.row ⟨[.func (.yield b23) #[] #[]], 100, false⟩) :: .at_ b23 lq58 :: .at_ d22 (.defs true) :: .at_ b21 (.row ⟨[.int .i64 ((tab : Nat) : Int)], 3, false⟩) :: .at_ b20 (.row ⟨[v1], 22, false⟩) :: .at_ b19 (.row ⟨[.bool ov], 4, false⟩) :: .at_ b18 (.row ⟨[.pointer (some ⟨q, 0, none⟩)], 90, false⟩) :: .at_ b14 (.row ⟨[.func (.yield b10) #[] #[]], 89, false⟩) :: .at_ b10 lp11 :: .at_ d9 (.defs true) :: .at_ b8 (.row ⟨[.bool wrap], 4, false⟩) :: .at_ b7 (.row ⟨[.int .i64 ((tab : Nat) : Int)], 3, false⟩) :: .at_ b6 (.row ⟨[.int .i64 ((wd : Nat) : Int)], 3, false⟩) :: .at_ b5 (.row ⟨[.int .i64 to_], 3, false⟩) :: .at_ b4 (.row ⟨[v1], 22, false⟩) :: .at_ b3 (.row ⟨[u], 27, false⟩) :: .at_ b2 (.row ⟨[.int .i64 ((most : Nat) : Int)], 3, false⟩) :: .at_ b1 (.row ⟨[.int .i64 to_], 3, false⟩) :: ((REs B R ++ L))) := H
        refine RW.nil ?_
        replace H := (H.del 3)
        dsimp only [setL, delL] at H
        refine W.rg [(1, .pointer (some ⟨b6, 0, none⟩)), (4, .pointer (some ⟨b8, 0, none⟩)), (5, .pointer (some ⟨b5, 0, none⟩)), (6, .pointer (some ⟨b14, 0, none⟩)), (7, .pointer (some ⟨b18, 0, none⟩)), (8, .pointer (some ⟨b19, 0, none⟩)), (14, .func (.func 65) #[] #[.pointer (some ⟨b20, 0, none⟩), .pointer (some ⟨b21, 0, none⟩)]), (15, .agg #[uv, .int .i64 ps, .bool fd])] fun TA => ?_
        refine W.region ?_
        refine RW.st H 16 [.bool true] [.bool true] ?_
        clear H; intro _ _ H; dsimp only [setL, delL] at H
        refine RW.nil ?_
        refine blkQ_normal ?_
        refine blkQ_normal ?_
        refine ⟨_, _, _, 12, true, .ready, none, H, rfl, rfl, ?_⟩
        clear H; intro _ lr123 _ hr124 H
        dsimp only [setL, delL] at H
        refine RW.v ?_
        refine RW.nil ?_
        refine W.c0 ?_
        refine W.skip ?_
        refine blkQ_normal ?_
        refine W.region ?_
        refine RW.valE (v' := .int .i64 (((j : Nat) : Int) + 1)) (by kernel_rfl) (by kernel_rfl) rfl (congrArg (Value.int .i64) (wrap_in (by omega) (by omega))) (by kernel_rfl) ?_
        refine RW.v ?_
        refine RW.nil ?_
        rw [show lr123 = lp24 from hr124.trans hl25.symm] at H
        replace H := H.front 28 rfl
        dsimp only [delL] at H
        replace H := H.front 28 rfl
        dsimp only [delL] at H
        replace H := H.front 28 rfl
        dsimp only [delL] at H
        replace H := H.front 28 rfl
        dsimp only [delL] at H
        replace H := H.front 28 rfl
        dsimp only [delL] at H
        replace H := H.front 28 rfl
        dsimp only [delL] at H
        replace H := H.front 28 rfl
        dsimp only [delL] at H
        replace H := H.front 28 rfl
        dsimp only [delL] at H
        replace H := H.front 28 rfl
        dsimp only [delL] at H
        replace H := H.front 28 rfl
        dsimp only [delL] at H
        replace H := H.front 28 rfl
        dsimp only [delL] at H
        replace H := H.front 13 rfl
        dsimp only [delL] at H
        replace H := H.front 13 rfl
        dsimp only [delL] at H
        replace H := H.front 13 rfl
        dsimp only [delL] at H
        replace H := H.front 28 rfl
        dsimp only [delL] at H
        replace H := H.front 28 rfl
        dsimp only [delL] at H
        replace H := H.front 28 rfl
        dsimp only [delL] at H
        replace H := H.front 28 rfl
        dsimp only [delL] at H
        replace H := H.front 28 rfl
        dsimp only [delL] at H
        replace H := H.front 28 rfl
        dsimp only [delL] at H
        replace H := H.front 28 rfl
        dsimp only [delL] at H
        replace H := H.front 28 rfl
        dsimp only [delL] at H
        replace H := H.front 28 rfl
        dsimp only [delL] at H
        replace H := H.front 28 rfl
        dsimp only [delL] at H
        replace H := H.front 28 rfl
        dsimp only [delL] at H
        replace H := H.front 28 rfl
        dsimp only [delL] at H
        replace H := H.front 28 rfl
        dsimp only [delL] at H
        replace H := H.front 28 rfl
        dsimp only [delL] at H
        replace H := H.front 28 rfl
        dsimp only [delL] at H
        exact ⟨rfl, mm3 - 1, by omega, j + 1, u, B, R, q, bc, bp, (markF s 36), true, (by omega), hB, hR, (ok_mark ok), (by rw [hc60b]; exact hT), H, rfl, rfl, rfl, rfl, rfl, rfl⟩
   ·have hc56b := hc56
    have hc56 := of_decide_eq_false hc56
    refine W.exit _ ?_
    refine seqQ_exit ?_
    refine rndQ_exit ?_
    rw [show n - j = 0 by omega] at hT
    replace hT : T = finS to_ most (runU to_ wd wrap most (unitsM tab (cn + n * XS.length) rest) ⟨R, to_, s, ov, false⟩) := by rw [← hUS]; exact hT
    refine blkQ_here ?_
    refine W.region ?_
    refine RW.ld H 7 1 ?_
    iterate 2 refine RW.v ?_
    refine RW.ld H 0 1 ?_
    refine RW.len (by kernel_rfl) (by kernel_rfl) rfl rfl rfl rfl (hX.len (e := 79) (by kernel_rfl)) (by kernel_rfl) ?_
    refine RW.valE (v' := .int .i64 ((n * XS.length : Nat) : Int)) (by kernel_rfl) (by kernel_rfl) rfl (congrArg (Value.int .i64) ((congrArg _ (Int.natCast_mul _ _).symm).trans (wrap_in (by omega) (by omega)))) (by kernel_rfl) ?_
    refine RW.valE (v' := .int .i64 ((cn + n * XS.length : Nat) : Int)) (by kernel_rfl) (by kernel_rfl) rfl (congrArg (Value.int .i64) ((wrap_in (by omega) (by omega)).trans (by omega))) (by kernel_rfl) ?_
    refine RW.st H 7 [.int .i64 (((cn + n * XS.length) : Nat) : Int)] [.int .i64 (((cn + n * XS.length) : Nat) : Int)] ?_
    clear H; intro _ _ H; dsimp only [setL, delL] at H
    refine RW.nil ?_
    replace H := (H.del 0)
    dsimp only [setL, delL] at H
    refine blkQ_normal ?_
    refine ⟨_, _, _, 3, true, .ready, none, H, rfl, rfl, ?_⟩
    clear H; intro _ lr125 _ hr126 H
    dsimp only [setL, delL] at H
    refine RW.v ?_
    refine RW.nil ?_
    refine W.c0 ?_
    refine W.skip ?_
    refine W.seq (W.region ?_)
    refine RW.v ?_
    refine RW.ld H 1 1 ?_
    refine RW.v ?_
    refine RW.nil ?_
    refine W.rg [(0, .func (.yield b31) #[] #[]), (4, .pointer (some ⟨b41, 0, none⟩)), (5, .int .i64 ps), (8, v1), (9, .int .i64 (l.length : Int)), (10, .int .i64 ((i : Nat) : Int)), (18, .pointer (some ⟨it42, 0, none⟩)), (33, .bool (((l.getD i default).k) == 0))] fun TA => ?_
    refine W.cond rfl (fun hc127 => ?_) (fun hc127 => ?_)
    ·have hc127b := hc127
     have hc127 := eq_of_beq hc127
     refine W.region ?_
     refine RW.v ?_
     refine RW.valE (v' := .int .i64 (ps + 1)) (by kernel_rfl) (by kernel_rfl) rfl (congrArg (Value.int .i64) (wrap_in (by omega) (by omega))) (by kernel_rfl) ?_
     refine RW.v ?_
     refine RW.nil ?_
     refine blkQ_normal ?_
     rw [show lr125 = lp32 from hr126.trans hl33.symm] at H
     rw [hrest, if_pos hc127] at hT
     have hcol2 : cn + n * XS.length + 64 * rest.length ≤ 100000000 := by omega
     rw [hrest, if_pos hc127] at hcol2
     exact ⟨rfl, mm2 - 1, by omega, p2, (ps + 1), F, u, B, R, q, bc, bp, s, ov, (cn + n * XS.length), (by omega), (⟨by omega, by omega⟩), le0, hB, hR, ok, hcol2, hT, H, rfl, rfl, rfl, rfl, rfl, rfl, rfl⟩
    ·have hc127b := hc127
     have hc127 := ne_of_beq_false hc127
     refine W.skip ?_
     refine blkQ_normal ?_
     rw [show lr125 = lp32 from hr126.trans hl33.symm] at H
     rw [hrest, if_neg hc127] at hT
     have hcol2 : cn + n * XS.length + 64 * rest.length ≤ 100000000 := by omega
     rw [hrest, if_neg hc127] at hcol2
     exact ⟨rfl, mm2 - 1, by omega, p2, ps, F, u, B, R, q, bc, bp, s, ov, (cn + n * XS.length), (by omega), (⟨by omega, by omega⟩), le0, hB, hR, ok, hcol2, hT, H, rfl, rfl, rfl, rfl, rfl, rfl, rfl⟩
  ·refine RW.nxtF H 0 hp ?_
   clear H; intro _ _ H; dsimp only [setL, delL] at H
   refine RW.v ?_
   refine RW.nil ?_
   refine W.rg [(0, .func (.yield b31) #[] #[]), (4, .pointer (some ⟨b41, 0, none⟩)), (5, .int .i64 ps), (8, v1), (9, .int .i64 (l.length : Int)), (10, .int .i64 ((i : Nat) : Int)), (18, .pointer (some ⟨it42, 0, none⟩)), (19, .tuple #[.bool false]), (20, .bool false)] fun TA => ?_
   refine W.seq ?_
   refine W.c0 ?_
   refine W.exit _ ?_
   refine seqQ_exit ?_
   refine rndQ_exit ?_
   rw [runes_end hp] at hT hcol
   replace hT : T = finS to_ most (runU to_ wd wrap most (unitsM tab col (charsM (l.drop (i + 1)))) ⟨R, to_, s, ov, false⟩) := hT
   replace hcol : col + 64 * (charsM (l.drop (i + 1))).length ≤ 100000000 := hcol
   refine blkQ_here ?_
   refine blkQ_normal ?_
   refine W.region ?_
   refine RW.valE (v' := .int .i64 (((i : Nat) : Int) + 1)) (by kernel_rfl) (by kernel_rfl) rfl (congrArg (Value.int .i64) (wrap_in (by omega) (by omega))) (by kernel_rfl) ?_
   refine RW.v ?_
   refine RW.nil ?_
   replace H := ((H.del 1).del 0)
   dsimp only [setL, delL] at H
   exact ⟨rfl, mm - 1, by omega, i + 1, F, u, B, R, q, bc, bp, s, ov, col, (by omega), le0, hB, hR, ok, hcol, hT, H, rfl, rfl, rfl, rfl⟩
 ·have hc35b := hc35
  have hc35 := of_decide_eq_false hc35
  refine W.exit _ ?_
  refine seqQ_exit ?_
  refine rndQ_exit ?_
  rw [List.drop_eq_nil_of_le (by omega)] at hT
  replace hT : T = finS to_ most ⟨R, to_, s, ov, false⟩ := hT
  refine blkQ_here ?_
  refine endG (by rfl) (by exact rfl) ?_
  refine ⟨_, _, _, 1, _, _, _, _, H, rfl, hl33, rfl, rfl, ?_⟩
  clear H; intro _ H
  dsimp only [setL, delL] at H
  refine blkQ_normal ?_
  refine endMark H 1 rfl fun _ H => ?_
  dsimp only [setL, delL] at H
  refine endGD0 (by rfl) (by exact rfl) ?_
  refine ⟨_, _, _, 4, _, _, _, _, H, rfl, hl25, rfl, rfl, ?_⟩
  clear H; intro _ H
  dsimp only [setL, delL] at H
  refine blkQ_normal ?_
  refine W.join (fun ta σ => ∃ (s2 : Fil), (s2 = if ov = true then s else endF s to_) ∧ (s2.Ok wd) ∧ Lies G A F σ (.sl 39 5 u R.length (rowsV (csB wd B) (psB wd B) (tosX R to_)) :: .at_ d22 (.defs true) :: .at_ b18 (.row ⟨[.pointer (some ⟨q, 0, none⟩)], 90, false⟩) :: .at_ q (.row ⟨[.slice (some ⟨bc, 0, none⟩) wd wd, .slice (some ⟨bp, 0, none⟩) wd wd, .int .i64 s2.fr, .int .i64 0, .bool s2.co, .int .i64 ((s2.n : Nat) : Int)], 99, false⟩) :: .at_ bc (.row ⟨cC s2.C, 79, false⟩) :: .at_ bp (.row ⟨s2.P.map (Value.int .i64), 3, false⟩) :: .at_ b14 (.row ⟨[.func (.yield b10) #[] #[]], 89, false⟩) :: .at_ b10 lp11 :: .at_ d9 (.defs true) :: .at_ b8 (.row ⟨[.bool wrap], 4, false⟩) :: .at_ b7 (.row ⟨[.int .i64 ((tab : Nat) : Int)], 3, false⟩) :: .at_ b6 (.row ⟨[.int .i64 ((wd : Nat) : Int)], 3, false⟩) :: .at_ b5 (.row ⟨[.int .i64 to_], 3, false⟩) :: .at_ b4 (.row ⟨[v1], 22, false⟩) :: .at_ b3 (.row ⟨[u], 27, false⟩) :: .at_ b2 (.row ⟨[.int .i64 ((most : Nat) : Int)], 3, false⟩) :: .at_ b1 (.row ⟨[.int .i64 to_], 3, false⟩) :: ((REs B R ++ L))) ∧ ta 6 = .pointer (some ⟨b14, 0, none⟩) ∧ ta 7 = .pointer (some ⟨b18, 0, none⟩)) ?_ ?_
  ·refine W.seq (W.region ?_)
   refine RW.ld H 7 1 ?_
   refine RW.v ?_
   refine RW.nil ?_
   replace H := ((((((H.del 7).del 6).del 5).del 3).del 2).del 1)
   dsimp only [setL, delL] at H
   refine W.rg [(5, .pointer (some ⟨b5, 0, none⟩)), (6, .pointer (some ⟨b14, 0, none⟩)), (7, .pointer (some ⟨b18, 0, none⟩)), (64, .bool (!ov))] fun TA => ?_
   refine W.cond rfl (fun hc128 => ?_) (fun hc128 => ?_)
   ·have hc128b := hc128
    refine W.region ?_
    refine RW.ld H 2 1 ?_
    refine RW.ld H 12 1 ?_
    replace H := H.front 5 rfl
    dsimp only [delL] at H
    replace H := H.front 5 rfl
    dsimp only [delL] at H
    replace H := H.front 5 rfl
    dsimp only [delL] at H
    refine RW.cl ?_
    refine ((end_wc (pos := to_) ok (by omega) (show Lies G A F _ (FE q bc bp wd s ++ (.sl 39 5 u R.length (rowsV (csB wd B) (psB wd B) (tosX R to_)) :: .at_ d22 (.defs true) :: .at_ b18 (.row ⟨[.pointer (some ⟨q, 0, none⟩)], 90, false⟩) :: .at_ b14 (.row ⟨[.func (.yield b10) #[] #[]], 89, false⟩) :: .at_ b10 lp11 :: .at_ d9 (.defs true) :: .at_ b8 (.row ⟨[.bool wrap], 4, false⟩) :: .at_ b7 (.row ⟨[.int .i64 ((tab : Nat) : Int)], 3, false⟩) :: .at_ b6 (.row ⟨[.int .i64 ((wd : Nat) : Int)], 3, false⟩) :: .at_ b5 (.row ⟨[.int .i64 to_], 3, false⟩) :: .at_ b4 (.row ⟨[v1], 22, false⟩) :: .at_ b3 (.row ⟨[u], 27, false⟩) :: .at_ b2 (.row ⟨[.int .i64 ((most : Nat) : Int)], 3, false⟩) :: .at_ b1 (.row ⟨[.int .i64 to_], 3, false⟩) :: ((REs B R ++ L)))) from H)).mono ?_)
    clear H
    intro _ _ H
    replace H : Lies G A F _ (.at_ q (.row ⟨[.slice (some ⟨bc, 0, none⟩) wd wd, .slice (some ⟨bp, 0, none⟩) wd wd, .int .i64 ((endF s to_).fr), .int .i64 0, .bool ((endF s to_).co), .int .i64 (((endF s to_).n : Nat) : Int)], 99, false⟩) :: .at_ bc (.row ⟨cC (endF s to_).C, 79, false⟩) :: .at_ bp (.row ⟨(endF s to_).P.map (Value.int .i64), 3, false⟩) :: .sl 39 5 u R.length (rowsV (csB wd B) (psB wd B) (tosX R to_)) :: .at_ d22 (.defs true) :: .at_ b18 (.row ⟨[.pointer (some ⟨q, 0, none⟩)], 90, false⟩) :: .at_ b14 (.row ⟨[.func (.yield b10) #[] #[]], 89, false⟩) :: .at_ b10 lp11 :: .at_ d9 (.defs true) :: .at_ b8 (.row ⟨[.bool wrap], 4, false⟩) :: .at_ b7 (.row ⟨[.int .i64 ((tab : Nat) : Int)], 3, false⟩) :: .at_ b6 (.row ⟨[.int .i64 ((wd : Nat) : Int)], 3, false⟩) :: .at_ b5 (.row ⟨[.int .i64 to_], 3, false⟩) :: .at_ b4 (.row ⟨[v1], 22, false⟩) :: .at_ b3 (.row ⟨[u], 27, false⟩) :: .at_ b2 (.row ⟨[.int .i64 ((most : Nat) : Int)], 3, false⟩) :: .at_ b1 (.row ⟨[.int .i64 to_], 3, false⟩) :: ((REs B R ++ L))) := H
    refine RW.nil ?_
    replace H := H.front 16 rfl
    dsimp only [delL] at H
    replace H := H.front 16 rfl
    dsimp only [delL] at H
    replace H := H.front 16 rfl
    dsimp only [delL] at H
    replace H := H.front 16 rfl
    dsimp only [delL] at H
    replace H := H.front 16 rfl
    dsimp only [delL] at H
    replace H := H.front 16 rfl
    dsimp only [delL] at H
    replace H := H.front 16 rfl
    dsimp only [delL] at H
    replace H := H.front 16 rfl
    dsimp only [delL] at H
    replace H := H.front 16 rfl
    dsimp only [delL] at H
    replace H := H.front 16 rfl
    dsimp only [delL] at H
    replace H := H.front 16 rfl
    dsimp only [delL] at H
    replace H := H.front 13 rfl
    dsimp only [delL] at H
    replace H := H.front 13 rfl
    dsimp only [delL] at H
    replace H := H.front 13 rfl
    dsimp only [delL] at H
    replace H := H.front 16 rfl
    dsimp only [delL] at H
    replace H := H.front 16 rfl
    dsimp only [delL] at H
    replace H := H.front 16 rfl
    dsimp only [delL] at H
    exact ⟨rfl, rfl, (endF s to_), (by rw [if_neg (by simpa using hc128b)]), (ok_end ok), H, rfl, rfl⟩
   ·have hc128b := hc128
    refine W.skip ?_
    exact ⟨rfl, rfl, s, (by rw [if_pos (by simpa using hc128b)]), ok, H, rfl, rfl⟩
  clear H
  rintro ta _ ⟨s2, hs2, ok2, H, e6, e7⟩
  refine W.rst [(6, .pointer (some ⟨b14, 0, none⟩)), (7, .pointer (some ⟨b18, 0, none⟩))] ⟨e6, e7, trivial⟩ fun TA => ?_
  clear e6 e7
  refine W.drawn (by kernel_rfl) (by kernel_rfl) H.gn ?_
  have H129 := H
  refine RW.ld H129 6 1 ?_
  refine RW.ld H129 2 1 ?_
  iterate 2 refine RW.v ?_
  refine RW.ld H129 3 5 ?_
  have H := H129
  refine RW.yieldLD H 7 rfl hl12 (by kernel_rfl) (by kernel_rfl) rfl rfl rfl rfl rfl (by kernel_rfl) ?_
  refine W.rg [(9, .pointer (some ⟨b1, 0, none⟩)), (13, .pointer (some ⟨b2, 0, none⟩)), (17, .pointer (some ⟨b3, 0, none⟩)), (54, .func (.func 50) #[] #[.pointer (some ⟨b6, 0, none⟩), .pointer (some ⟨b4, 0, none⟩), .pointer (some ⟨b7, 0, none⟩), .pointer (some ⟨b8, 0, none⟩), .pointer (some ⟨b5, 0, none⟩)]), (55, .agg #[.slice (some ⟨bc, 0, none⟩) wd wd, .slice (some ⟨bp, 0, none⟩) wd wd, .int .i64 s2.fr, .int .i64 0, .bool s2.co])] fun TA => ?_
  refine W.region ?_
  refine RW.mk H (.row ⟨[.slice none 0 0, .slice none 0 0, .int .i64 0, .int .i64 0, .bool false], 39, false⟩) ?_
  clear H; intro _ b130 _ H
  refine RW.st H 0 [.slice (some ⟨bc, 0, none⟩) wd wd, .slice (some ⟨bp, 0, none⟩) wd wd, .int .i64 s2.fr, .int .i64 0, .bool s2.co] [.slice (some ⟨bc, 0, none⟩) wd wd, .slice (some ⟨bp, 0, none⟩) wd wd, .int .i64 s2.fr, .int .i64 0, .bool s2.co] ?_
  clear H; intro _ _ H; dsimp only [setL, delL] at H
  refine RW.nil ?_
  refine ⟨rfl, _, _, _, 8, H, rfl, ?_⟩
  clear H; intro _ lq131 hq132 H
  dsimp only [setL, delL] at H
  refine W.rg [(9, .pointer (some ⟨b1, 0, none⟩)), (13, .pointer (some ⟨b2, 0, none⟩)), (17, .pointer (some ⟨b3, 0, none⟩)), (18, .pointer (some ⟨b130, 0, none⟩)), (54, .func (.func 50) #[] #[.pointer (some ⟨b6, 0, none⟩), .pointer (some ⟨b4, 0, none⟩), .pointer (some ⟨b7, 0, none⟩), .pointer (some ⟨b8, 0, none⟩), .pointer (some ⟨b5, 0, none⟩)]), (55, .agg #[.slice (some ⟨bc, 0, none⟩) wd wd, .slice (some ⟨bp, 0, none⟩) wd wd, .int .i64 s2.fr, .int .i64 0, .bool s2.co])] fun TA => ?_
  refine W.block ?_
  refine W.seq (W.region ?_)
  refine RW.ld H 15 1 ?_
  refine RW.len (by kernel_rfl) (by kernel_rfl) rfl rfl rfl rfl ((H.sl 1 rfl).len (by kernel_rfl)) (by kernel_rfl) ?_
  refine RW.v ?_
  refine RW.nil ?_
  refine W.rg [(9, .pointer (some ⟨b1, 0, none⟩)), (13, .pointer (some ⟨b2, 0, none⟩)), (17, .pointer (some ⟨b3, 0, none⟩)), (18, .pointer (some ⟨b130, 0, none⟩)), (19, .int .i64 ((R.length : Nat) : Int)), (54, .func (.func 50) #[] #[.pointer (some ⟨b6, 0, none⟩), .pointer (some ⟨b4, 0, none⟩), .pointer (some ⟨b7, 0, none⟩), .pointer (some ⟨b8, 0, none⟩), .pointer (some ⟨b5, 0, none⟩)]), (55, .agg #[.slice (some ⟨bc, 0, none⟩) wd wd, .slice (some ⟨bp, 0, none⟩) wd wd, .int .i64 s2.fr, .int .i64 0, .bool s2.co])] fun TA => ?_
  refine W.join (fun ta σ => ∃ (z0 : Unit), Lies G A F σ (.at_ b130 (.row ⟨[.slice (some ⟨bc, 0, none⟩) wd wd, .slice (some ⟨bp, 0, none⟩) wd wd, .int .i64 s2.fr, .int .i64 0, .bool s2.co], 39, false⟩) :: .sl 39 5 u R.length (rowsV (csB wd B) (psB wd B) (tosX R s2.fr)) :: .at_ d22 (.defs true) :: .at_ b18 (.row ⟨[.pointer (some ⟨q, 0, none⟩)], 90, false⟩) :: .at_ q (.row ⟨[.slice (some ⟨bc, 0, none⟩) wd wd, .slice (some ⟨bp, 0, none⟩) wd wd, .int .i64 s2.fr, .int .i64 0, .bool s2.co, .int .i64 ((s2.n : Nat) : Int)], 99, false⟩) :: .at_ bc (.row ⟨cC s2.C, 79, false⟩) :: .at_ bp (.row ⟨s2.P.map (Value.int .i64), 3, false⟩) :: .at_ b14 (.row ⟨[.func (.yield b10) #[] #[]], 89, false⟩) :: .at_ b10 lq131 :: .at_ d9 (.defs true) :: .at_ b8 (.row ⟨[.bool wrap], 4, false⟩) :: .at_ b7 (.row ⟨[.int .i64 ((tab : Nat) : Int)], 3, false⟩) :: .at_ b6 (.row ⟨[.int .i64 ((wd : Nat) : Int)], 3, false⟩) :: .at_ b5 (.row ⟨[.int .i64 to_], 3, false⟩) :: .at_ b4 (.row ⟨[v1], 22, false⟩) :: .at_ b3 (.row ⟨[u], 27, false⟩) :: .at_ b2 (.row ⟨[.int .i64 ((most : Nat) : Int)], 3, false⟩) :: .at_ b1 (.row ⟨[.int .i64 to_], 3, false⟩) :: ((REs B R ++ L))) ∧ ta 9 = .pointer (some ⟨b1, 0, none⟩) ∧ ta 13 = .pointer (some ⟨b2, 0, none⟩) ∧ ta 17 = .pointer (some ⟨b3, 0, none⟩) ∧ ta 18 = .pointer (some ⟨b130, 0, none⟩) ∧ ta 19 = .int .i64 ((R.length : Nat) : Int)) ?_ ?_
  ·refine W.seq (W.region ?_)
   iterate 2 refine RW.v ?_
   refine RW.nil ?_
   refine W.rg [(9, .pointer (some ⟨b1, 0, none⟩)), (13, .pointer (some ⟨b2, 0, none⟩)), (17, .pointer (some ⟨b3, 0, none⟩)), (18, .pointer (some ⟨b130, 0, none⟩)), (19, .int .i64 ((R.length : Nat) : Int)), (54, .func (.func 50) #[] #[.pointer (some ⟨b6, 0, none⟩), .pointer (some ⟨b4, 0, none⟩), .pointer (some ⟨b7, 0, none⟩), .pointer (some ⟨b8, 0, none⟩), .pointer (some ⟨b5, 0, none⟩)]), (55, .agg #[.slice (some ⟨bc, 0, none⟩) wd wd, .slice (some ⟨bp, 0, none⟩) wd wd, .int .i64 s2.fr, .int .i64 0, .bool s2.co]), (59, .bool (decide (((R.length : Nat) : Int) > 0)))] fun TA => ?_
   refine W.cond rfl (fun hc133 => ?_) (fun hc133 => ?_)
   ·have hc133b := hc133
    have hc133 := of_decide_eq_true hc133
    refine W.region ?_
    refine RW.ld H 15 1 ?_
    refine RW.v ?_
    refine RW.valE (v' := .int .i64 (((R.length : Nat) : Int) - 1)) (by kernel_rfl) (by kernel_rfl) rfl (congrArg (Value.int .i64) (wrap_in (by omega) (by omega))) (by kernel_rfl) ?_
    refine RW.v ?_
    refine RW.ld H 0 1 ?_
    refine RW.idxGS H 1 rfl (by kernel_rfl) (by kernel_rfl) rfl Tryd.underlying27 (by kernel_rfl) rfl rfl ⟨by omega, by omega⟩ (by kernel_rfl) ?_
    intro b134 q135 hb136 hq137
    refine RW.v ?_
    refine RW.stG H 1 rfl hb136 (vs := [.int .i64 s2.fr]) (by show q135 + 3 + 1 ≤ R.length * 5; omega) (by kernel_rfl) (by kernel_rfl) rfl rfl rfl rfl (by kernel_rfl) (by kernel_rfl) ?_
    clear H; intro _ H
    dsimp only [setL, delL] at H
    replace H : Lies G A F _ (.at_ b130 (.row ⟨[.slice (some ⟨bc, 0, none⟩) wd wd, .slice (some ⟨bp, 0, none⟩) wd wd, .int .i64 s2.fr, .int .i64 0, .bool s2.co], 39, false⟩) :: .sl 39 5 u R.length (overL (rowsV (csB wd B) (psB wd B) (tosX R to_)) (q135 + 3) [.int .i64 s2.fr]) :: .at_ d22 (.defs true) :: .at_ b18 (.row ⟨[.pointer (some ⟨q, 0, none⟩)], 90, false⟩) :: .at_ q (.row ⟨[.slice (some ⟨bc, 0, none⟩) wd wd, .slice (some ⟨bp, 0, none⟩) wd wd, .int .i64 s2.fr, .int .i64 0, .bool s2.co, .int .i64 ((s2.n : Nat) : Int)], 99, false⟩) :: .at_ bc (.row ⟨cC s2.C, 79, false⟩) :: .at_ bp (.row ⟨s2.P.map (Value.int .i64), 3, false⟩) :: .at_ b14 (.row ⟨[.func (.yield b10) #[] #[]], 89, false⟩) :: .at_ b10 lq131 :: .at_ d9 (.defs true) :: .at_ b8 (.row ⟨[.bool wrap], 4, false⟩) :: .at_ b7 (.row ⟨[.int .i64 ((tab : Nat) : Int)], 3, false⟩) :: .at_ b6 (.row ⟨[.int .i64 ((wd : Nat) : Int)], 3, false⟩) :: .at_ b5 (.row ⟨[.int .i64 to_], 3, false⟩) :: .at_ b4 (.row ⟨[v1], 22, false⟩) :: .at_ b3 (.row ⟨[u], 27, false⟩) :: .at_ b2 (.row ⟨[.int .i64 ((most : Nat) : Int)], 3, false⟩) :: .at_ b1 (.row ⟨[.int .i64 to_], 3, false⟩) :: ((REs B R ++ L))) := H
    rw [show overL (rowsV (csB wd B) (psB wd B) (tosX R to_)) (q135 + 3) [.int .i64 s2.fr] = rowsV (csB wd B) (psB wd B) (tosX R s2.fr) by rw [hq137, show (((R.length : Nat) : Int) - 1).toNat * 5 + 3 = (R.length - 1) * 5 + 3 by omega]; exact rows_set hB (by omega)] at H
    refine RW.nil ?_
    exact ⟨rfl, rfl, (), H, rfl, rfl, rfl, rfl, rfl⟩
   ·have hc133b := hc133
    have hc133 := of_decide_eq_false hc133
    refine W.skip ?_
    have hR0 : R = [] := List.eq_nil_of_length_eq_zero (by omega)
    rw [show tosX R to_ = tosX R s2.fr by rw [hR0]; rfl] at H
    exact ⟨rfl, rfl, (), H, rfl, rfl, rfl, rfl, rfl⟩
  clear H
  rintro ta _ ⟨z0, H, e9, e13, e17, e18, e19⟩
  refine W.rst [(9, .pointer (some ⟨b1, 0, none⟩)), (13, .pointer (some ⟨b2, 0, none⟩)), (17, .pointer (some ⟨b3, 0, none⟩)), (18, .pointer (some ⟨b130, 0, none⟩)), (19, .int .i64 ((R.length : Nat) : Int))] ⟨e9, e13, e17, e18, e19, trivial⟩ fun TA => ?_
  clear e9 e13 e17 e18 e19
  refine W.seq ?_
  refine W.seq (W.region ?_)
  refine RW.v ?_
  refine RW.ld H 16 1 ?_
  refine RW.v ?_
  refine RW.nil ?_
  refine W.rg [(9, .pointer (some ⟨b1, 0, none⟩)), (13, .pointer (some ⟨b2, 0, none⟩)), (17, .pointer (some ⟨b3, 0, none⟩)), (18, .pointer (some ⟨b130, 0, none⟩)), (69, .bool (((R.length : Nat) : Int) == ((most : Nat) : Int)))] fun TA => ?_
  refine W.cond rfl (fun hc138 => ?_) (fun hc138 => ?_)
  ·have hc138b := hc138
   have hc138 := eq_of_beq hc138
   have hne : R.length = most := by omega
   rw [fin_stop hne, ← hs2] at hT
   refine W.exit _ ?_
   refine seqQ_exit ?_
   refine blkQ_out rfl ?_
   refine ⟨_, _, _, 8, false, .done, (some (.exit 0)), H, rfl, rfl, ?_⟩
   clear H; intro _ lr139 hr140 H
   dsimp only [setL, delL] at H
   have H141 := H
   refine RW.nil ?_
   refine ⟨⟨by kernel_rfl, ⟨dyn_row (H129.get 6 rfl) (H141.get 7 rfl) ⟨nB, nB, nB, nB, nB, fun _ => H129.get 6 rfl, trivial⟩, dyn_row (H129.get 2 rfl) (H141.get 3 rfl) ⟨nB, nB, nB, nB, nB, fun _ => H129.get 2 rfl, trivial⟩, trivial, trivial, dyn_row (H129.get 3 rfl) (H141.get 4 rfl) ⟨nB, nB, nB, nB, nB, fun _ => H129.get 3 rfl, trivial⟩, trivial, trivial⟩⟩, ?_⟩
   replace H := H141
   clear H129 H141
   replace H := ((((((H.del 7).del 6).del 5).del 4).del 3).del 0)
   dsimp only [setL, delL] at H
   refine endMark H 1 rfl fun _ H => ?_
   dsimp only [setL, delL] at H
   refine endGD0 (by rfl) (by exact rfl) ?_
   refine ⟨_, _, _, 1, _, _, _, _, H, rfl, hr140, rfl, rfl, ?_⟩
   clear H; intro _ H
   dsimp only [setL, delL] at H
   refine blkQ_here ?_
   refine W.rg [(9, .pointer (some ⟨b1, 0, none⟩)), (13, .pointer (some ⟨b2, 0, none⟩)), (17, .pointer (some ⟨b3, 0, none⟩)), (54, .func (.func 50) #[] #[.pointer (some ⟨b6, 0, none⟩), .pointer (some ⟨b4, 0, none⟩), .pointer (some ⟨b7, 0, none⟩), .pointer (some ⟨b8, 0, none⟩), .pointer (some ⟨b5, 0, none⟩)])] fun TA => ?_
   refine W.seq (W.region ?_)
   refine RW.ld H 7 1 ?_
   iterate 2 refine RW.v ?_
   refine RW.nil ?_
   replace H := ((((((((H.del 9).del 8).del 7).del 6).del 5).del 4).del 3).del 2)
   dsimp only [setL, delL] at H
   refine W.ret ?_
   refine ⟨rfl, ?_⟩
   refine endMark H 1 rfl fun _ H => ?_
   dsimp only [setL, delL] at H
   refine endGD0 (by rfl) (by exact resL_tmp (by exact resL_tmp rfl)) ?_
   subst hT
   exact ⟨F, u, B, le0, rfl, hB, H⟩
  ·have hc138b := hc138
   have hc138 := ne_of_beq_false hc138
   have hne : R.length ≠ most := by omega
   rw [fin_go hne, ← hs2] at hT
   refine W.skip ?_
   refine W.seq (W.region ?_)
   refine RW.ld H 17 1 ?_
   refine RW.v ?_
   refine RW.st H 0 [.int .i64 to_] [.slice (some ⟨bc, 0, none⟩) wd wd, .slice (some ⟨bp, 0, none⟩) wd wd, .int .i64 s2.fr, .int .i64 to_, .bool s2.co] ?_
   clear H; intro _ _ H; dsimp only [setL, delL] at H
   refine RW.nil ?_
   refine W.rg [(9, .pointer (some ⟨b1, 0, none⟩)), (13, .pointer (some ⟨b2, 0, none⟩)), (17, .pointer (some ⟨b3, 0, none⟩)), (18, .pointer (some ⟨b130, 0, none⟩))] fun TA => ?_
   refine W.region ?_
   refine RW.ld H 15 1 ?_
   refine RW.ld H 0 5 ?_
   refine RW.mkL H (x := .row ⟨[.slice (some ⟨bc, 0, none⟩) wd wd, .slice (some ⟨bp, 0, none⟩) wd wd, .int .i64 s2.fr, .int .i64 to_, .bool s2.co], 39, false⟩) (fm := fun b => .slice (some ⟨b, 0, none⟩) 1 1) (by kernel_rfl) (by kernel_rfl) (by kernel_rfl) (by kernel_rfl) ?_
   clear H; intro _ b142 _ H
   refine RW.appLB H 2 0 (n := 1) (e2 := 39) (by kernel_rfl) (by kernel_rfl) rfl rfl rfl rfl rfl rfl rfl (.inl rfl) rfl (by kernel_rfl) (by kernel_rfl) (by kernel_rfl) (by decide) (by decide) rfl rfl (by omega) (by kernel_rfl) ?_
   clear H; intro _ v143 H
   dsimp only [setL, delL] at H
   refine RW.stL H 15 (vs := [v143]) (cs' := [v143]) (by kernel_rfl) (by kernel_rfl) rfl rfl rfl (H.sl 1 rfl).one (gr_all (H.sl 1 rfl)) (by kernel_rfl) (Nat.le_of_ble_eq_true rfl) rfl (by kernel_rfl) ?_
   clear H; intro _ _ H; dsimp only [setL, delL] at H
   replace H := H.front 6 rfl
   dsimp only [delL] at H
   replace H := H.front 6 rfl
   dsimp only [delL] at H
   replace H := RE_push (X := [.at_ b130 (.row ⟨[.slice (some ⟨bc, 0, none⟩) wd wd, .slice (some ⟨bp, 0, none⟩) wd wd, .int .i64 s2.fr, .int .i64 to_, .bool s2.co], 39, false⟩), .sl 39 5 v143 (R.length + 1) (rowsV (csB wd B) (psB wd B) (tosX R s2.fr) ++ [.slice (some ⟨bc, 0, none⟩) wd wd, .slice (some ⟨bp, 0, none⟩) wd wd, .int .i64 s2.fr, .int .i64 to_, .bool s2.co]), .at_ d22 (.defs true), .at_ b18 (.row ⟨[.pointer (some ⟨q, 0, none⟩)], 90, false⟩), .at_ q (.row ⟨[.slice (some ⟨bc, 0, none⟩) wd wd, .slice (some ⟨bp, 0, none⟩) wd wd, .int .i64 s2.fr, .int .i64 0, .bool s2.co, .int .i64 ((s2.n : Nat) : Int)], 99, false⟩), .at_ b14 (.row ⟨[.func (.yield b10) #[] #[]], 89, false⟩), .at_ b10 lq131, .at_ d9 (.defs true), .at_ b8 (.row ⟨[.bool wrap], 4, false⟩), .at_ b7 (.row ⟨[.int .i64 ((tab : Nat) : Int)], 3, false⟩), .at_ b6 (.row ⟨[.int .i64 ((wd : Nat) : Int)], 3, false⟩), .at_ b5 (.row ⟨[.int .i64 to_], 3, false⟩), .at_ b4 (.row ⟨[v1], 22, false⟩), .at_ b3 (.row ⟨[v143], 27, false⟩), .at_ b2 (.row ⟨[.int .i64 ((most : Nat) : Int)], 3, false⟩), .at_ b1 (.row ⟨[.int .i64 to_], 3, false⟩)]) (r := rowOf s2) hB H
   rw [show rowsV (csB wd B) (psB wd B) (tosX R s2.fr) ++ [.slice (some ⟨bc, 0, none⟩) wd wd, .slice (some ⟨bp, 0, none⟩) wd wd, .int .i64 s2.fr, .int .i64 to_, .bool s2.co] = rowsV (csB wd (B ++ [(bc, bp)])) (psB wd (B ++ [(bc, bp)])) (tosX (R ++ [rowOf s2]) to_) from rowsV_push (r := rowOf s2) hB, show R.length + 1 = (R ++ [rowOf s2]).length from by rw [List.length_append]; rfl] at H
   replace H : Lies G A F _ (.at_ b130 (.row ⟨[.slice (some ⟨bc, 0, none⟩) wd wd, .slice (some ⟨bp, 0, none⟩) wd wd, .int .i64 s2.fr, .int .i64 to_, .bool s2.co], 39, false⟩) :: .sl 39 5 v143 ((R ++ [rowOf s2]).length) (rowsV (csB wd (B ++ [(bc, bp)])) (psB wd (B ++ [(bc, bp)])) (tosX (R ++ [rowOf s2]) to_)) :: .at_ d22 (.defs true) :: .at_ b18 (.row ⟨[.pointer (some ⟨q, 0, none⟩)], 90, false⟩) :: .at_ q (.row ⟨[.slice (some ⟨bc, 0, none⟩) wd wd, .slice (some ⟨bp, 0, none⟩) wd wd, .int .i64 s2.fr, .int .i64 0, .bool s2.co, .int .i64 ((s2.n : Nat) : Int)], 99, false⟩) :: .at_ b14 (.row ⟨[.func (.yield b10) #[] #[]], 89, false⟩) :: .at_ b10 lq131 :: .at_ d9 (.defs true) :: .at_ b8 (.row ⟨[.bool wrap], 4, false⟩) :: .at_ b7 (.row ⟨[.int .i64 ((tab : Nat) : Int)], 3, false⟩) :: .at_ b6 (.row ⟨[.int .i64 ((wd : Nat) : Int)], 3, false⟩) :: .at_ b5 (.row ⟨[.int .i64 to_], 3, false⟩) :: .at_ b4 (.row ⟨[v1], 22, false⟩) :: .at_ b3 (.row ⟨[v143], 27, false⟩) :: .at_ b2 (.row ⟨[.int .i64 ((most : Nat) : Int)], 3, false⟩) :: .at_ b1 (.row ⟨[.int .i64 to_], 3, false⟩) :: ((REs (B ++ [(bc, bp)]) (R ++ [rowOf s2]) ++ L))) := H
   refine RW.nil ?_
   replace H := (H.del 0)
   dsimp only [setL, delL] at H
   refine blkQ_normal ?_
   refine ⟨_, _, _, 5, true, .ready, none, H, rfl, rfl, ?_⟩
   clear H; intro _ lr144 hr145 H
   dsimp only [setL, delL] at H
   have H146 := H
   refine RW.nil ?_
   refine ⟨⟨by kernel_rfl, ⟨dyn_row (H129.get 6 rfl) (H146.get 4 rfl) ⟨nB, nB, nB, nB, nB, fun _ => H129.get 6 rfl, trivial⟩, dyn_row (H129.get 2 rfl) (H146.get 2 rfl) ⟨nB, nB, nB, nB, nB, fun _ => H129.get 2 rfl, trivial⟩, trivial, trivial, dyn_row (H129.get 3 rfl) (H146.get 3 rfl) ⟨nB, nB, nB, nB, nB, fun _ => H129.get 3 rfl, trivial⟩, trivial, trivial⟩⟩, ?_⟩
   replace H := H146
   clear H129 H146
   replace H := (((H.del 4).del 3).del 2)
   dsimp only [setL, delL] at H
   refine endMark H 1 rfl fun _ H => ?_
   dsimp only [setL, delL] at H
   refine endGD0 (by rfl) (by exact rfl) ?_
   refine ⟨_, _, _, 1, _, _, _, _, H, rfl, hr145, rfl, rfl, ?_⟩
   clear H; intro _ H
   dsimp only [setL, delL] at H
   refine blkQ_normal ?_
   refine W.rg [(9, .pointer (some ⟨b1, 0, none⟩)), (13, .pointer (some ⟨b2, 0, none⟩)), (17, .pointer (some ⟨b3, 0, none⟩)), (54, .func (.func 50) #[] #[.pointer (some ⟨b6, 0, none⟩), .pointer (some ⟨b4, 0, none⟩), .pointer (some ⟨b7, 0, none⟩), .pointer (some ⟨b8, 0, none⟩), .pointer (some ⟨b5, 0, none⟩)])] fun TA => ?_
   refine W.seq (W.region ?_)
   refine RW.ld H 7 1 ?_
   iterate 2 refine RW.v ?_
   refine RW.nil ?_
   replace H := ((((((((H.del 9).del 8).del 7).del 6).del 5).del 4).del 3).del 2)
   dsimp only [setL, delL] at H
   refine W.ret ?_
   refine ⟨rfl, ?_⟩
   refine endMark H 1 rfl fun _ H => ?_
   dsimp only [setL, delL] at H
   refine endGD0 (by rfl) (by exact resL_tmp (by exact resL_tmp rfl)) ?_
   subst hT
   exact ⟨F, v143, (B ++ [(bc, bp)]), le0, rfl, (by rw [List.length_append, List.length_append, hB]; rfl), H⟩
end
end Go.Proofs.YtmmapljeeccdnaaDoor
