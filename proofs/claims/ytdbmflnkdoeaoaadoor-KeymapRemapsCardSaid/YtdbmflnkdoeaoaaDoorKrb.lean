/-
 own and bound on a map without a parent. Conditions: the heap lies there as HeapAt says.
-/
import Derived.Test.YtdbmflnkdoeaoaaDoorKrt
namespace Go.Proofs.YtdbmflnkdoeaoaaDoor
set_option maxRecDepth 100000
abbrev Me := Wd × Wd × Int
def me0 : Me := ((0, 0), (0, 0), 0)
structure MapC (m : HM) (w : Wd) (c : Nat → Wd) (es : List Me) : Prop where
 root : m.find w = some (.pair (1, 66) (c 0))
 last : c es.length = (1, 0)
 next : ∀ j, j < es.length → m.find (c j) = some (.pair (2, (es.getD j me0).2.2) (c (j + 1)))
 ent : ∀ j, j < es.length → m.find (2, (es.getD j me0).2.2) = some (.pair (es.getD j me0).1 (es.getD j me0).2.1)
def pA (ev : Wd) (e : Me) : Bool := e.1.1 == ev.1 && e.1.2 == ev.2
def pB (ev : Wd) (e : Me) : Bool := (e.1.1 == ev.1 && e.1.2 == ev.2) && !(e.2.1.1 == 1 && e.2.1.2 == 0)
def boundP (ev : Wd) (es : List Me) : Wd := match es.find? (pB ev) with
 | some e => e.2.1
 | none => (1, 0)
def ownV (p : Me → Bool) (es : List Me) : Value := match es.find? p with
 | some e => .tuple #[.agg #[.int .i64 e.1.1, .int .i64 e.1.2, .int .i64 e.2.1.1, .int .i64 e.2.1.2, .int .i64 2, .int .i64 e.2.2], .bool true]
 | none => .tuple #[.agg #[.int .i64 0, .int .i64 0, .int .i64 0, .int .i64 0, .int .i64 0, .int .i64 0], .bool false]
theorem not_t {b : Bool} (h : (!b) = true) : b = false := by cases b <;> simp_all
theorem not_f {b : Bool} (h : (!b) = false) : b = true := by cases b <;> simp_all
section
variable {es : List Me} {p : Me → Bool} {ev : Wd} {j : Nat}
theorem take_next (hj : j < es.length) (hN : ∀ e ∈ es.take j, p e = false) (h : p (es.getD j me0) = false) : ∀ e ∈ es.take (j + 1), p e = false := by
 have e1 : es.take (j + 1) = es.take j ++ [es.getD j me0] := by
  rw [List.take_add_one, List.getElem?_eq_getElem hj, List.getD_eq_getElem?_getD, List.getElem?_eq_getElem hj]
  rfl
 rw [e1]
 intro e he
 rcases List.mem_append.1 he with h1 | h1
 ·exact hN e h1
 ·rw [List.mem_singleton.1 h1]; exact h
theorem find_hit (hj : j < es.length) (hN : ∀ e ∈ es.take j, p e = false) (h : p (es.getD j me0) = true) : es.find? p = some (es.getD j me0) := by
 induction es generalizing j with
 | nil => cases hj
 | cons x l ih =>
  cases j with
  | zero => exact List.find?_cons_of_pos h
  | succ j =>
   rw [List.find?_cons_of_neg (by rw [hN x (by simp)]; decide)]
   exact ih (j := j) (by simpa using hj) (fun e he => hN e (by rw [List.take_succ_cons]; exact List.mem_cons_of_mem _ he)) h
theorem find_none (hN : ∀ e ∈ es.take j, p e = false) (hj : es.length ≤ j) : es.find? p = none := by
 rw [List.take_of_length_le hj] at hN
 exact List.find?_eq_none.2 fun e he => by rw [hN e he]; decide
theorem bound_hit (hj : j < es.length) (hN : ∀ e ∈ es.take j, pB ev e = false) (h : pB ev (es.getD j me0) = true) : wdV (es.getD j me0).2.1 = wdV (boundP ev es) := by
 unfold boundP
 rw [find_hit hj hN h]
theorem bound_none (hN : ∀ e ∈ es.take j, pB ev e = false) (hj : es.length ≤ j) : wdV (1, 0) = wdV (boundP ev es) := by
 unfold boundP
 rw [find_none hN hj]
theorem ownV_hit (hj : j < es.length) (hN : ∀ e ∈ es.take j, p e = false) (h : p (es.getD j me0) = true) : Value.tuple #[.agg #[.int .i64 (es.getD j me0).1.1, .int .i64 (es.getD j me0).1.2, .int .i64 (es.getD j me0).2.1.1, .int .i64 (es.getD j me0).2.1.2, .int .i64 2, .int .i64 (es.getD j me0).2.2], .bool true] = ownV p es := by
 unfold ownV
 rw [find_hit hj hN h]
theorem ownV_nil : ownV p [] = .tuple #[.agg #[.int .i64 0, .int .i64 0, .int .i64 0, .int .i64 0, .int .i64 0, .int .i64 0], .bool false] := rfl
theorem ownV_yes {x : Me} {l : List Me} (h : p x = true) : ownV p (x :: l) = .tuple #[.agg #[.int .i64 x.1.1, .int .i64 x.1.2, .int .i64 x.2.1.1, .int .i64 x.2.1.2, .int .i64 2, .int .i64 x.2.2], .bool true] := by
 unfold ownV
 rw [List.find?_cons_of_pos h]
theorem ownV_no {x : Me} {l : List Me} (h : p x = false) : ownV p (x :: l) = ownV p l := by
 unfold ownV
 rw [List.find?_cons_of_neg (by rw [h]; decide)]
theorem boundP_nil : boundP ev [] = (1, 0) := rfl
theorem boundP_yes {x : Me} {l : List Me} (h : pB ev x = true) : boundP ev (x :: l) = x.2.1 := by
 unfold boundP
 rw [List.find?_cons_of_pos h]
theorem boundP_no {x : Me} {l : List Me} (h : pB ev x = false) : boundP ev (x :: l) = boundP ev l := by
 unfold boundP
 rw [List.find?_cons_of_neg (by rw [h]; decide)]
theorem ownV_none (hN : ∀ e ∈ es.take j, p e = false) (hj : es.length ≤ j) : Value.tuple #[.agg #[.int .i64 0, .int .i64 0, .int .i64 0, .int .i64 0, .int .i64 0, .int .i64 0], .bool false] = ownV p es := by
 unfold ownV
 rw [find_none hN hj]
end
section
variable {h T : Nat} {m : HM} {σ σ0 : Mem} {F : Nat → Option Blk2} {L : List Ent}
theorem cons_c {w : Wd} {c : Nat → Wd} {es : List Me} {j : Nat} (M : MapC m w c es) (hj : j ≤ es.length) (H : Lies G65 (heapAbs h m) F σ L) :
  WC G65 Tryd.prog 63 #[.agg #[.pointer (some ⟨h, 0, none⟩), .pointer (some ⟨T, 0, none⟩), .int .i64 1, .int .i64 66], wdV (c j)] σ fun v σ' => ∃ a d is, v = .tuple #[wdV a, wdV d, .bool is] ∧ (is = true → j < es.length ∧ a = (2, (es.getD j me0).2.2) ∧ d = c (j + 1)) ∧ (is = false → j = es.length) ∧ Lies G65 (heapAbs h m) F σ' L := by
 by_cases e : j < es.length
 ·exact (cons_y (T := T) (M.next j e) H).mono fun _ _ ⟨h1, h2⟩ => ⟨_, _, _, h1, fun _ => ⟨e, rfl, rfl⟩, fun h => (by cases h), h2⟩
 ·obtain rfl : j = es.length := by omega
  exact (cons_n (T := T) (w := c es.length) (by rw [M.last]; decide) H).mono fun _ _ ⟨h1, h2⟩ => ⟨_, _, _, h1, fun h => (by cases h), fun _ => rfl, h2⟩
set_option maxHeartbeats 16000000 in
theorem bound_wc {w ev : Wd} {c : Nat → Wd} {es : List Me} (M : MapC m w c es) (hn : es.length < 65535) (hT : ∀ j, j < es.length → ((es.getD j me0).1.1 == 1 && (es.getD j me0).1.2 == 1) = false) (hG : G65 ≤ σ0.next) (ha : σ0.abs = heapAbs h m) : WC G65 Tryd.prog 51 #[.agg #[.pointer (some ⟨h, 0, none⟩), .pointer (some ⟨T, 0, none⟩), .int .i64 1, .int .i64 66], wdV w, wdV ev] σ0 fun v σ' => v = wdV (boundP ev es) ∧ Lies G65 (heapAbs h m) σ0.get σ' [] := by
 have H := Lies.start hG ha
 generalize σ0.get = F at H ⊢
 refine WC.enterD (fn := Tryd.f51) Tryd.func51 rfl ?_
 refine W.rg [(0, .agg #[pp h, pp T, .int .i64 1, .int .i64 66]), (1, .agg #[.int .i64 w.1, .int .i64 w.2]), (2, .agg #[.int .i64 ev.1, .int .i64 ev.2])] fun TA => ?_
 refine W.seq (W.region ?_)
 refine RW.mk H (.row ⟨[pt h, pt T, .int .i64 1, .int .i64 66], 65, false⟩) ?_
 clear H; intro _ b1 _ H
 refine RW.mk H (.row ⟨[.int .i64 w.1, .int .i64 w.2], 28, false⟩) ?_
 clear H; intro _ b2 _ H
 refine RW.mk H (.row ⟨[.int .i64 ev.1, .int .i64 ev.2], 28, false⟩) ?_
 clear H; intro _ b3 _ H
 refine RW.mk H (.row ⟨[.int .i64 0, .int .i64 0], 28, false⟩) ?_
 clear H; intro _ b4 _ H
 refine RW.nil ?_
 refine W.rg [(3, pp b1), (4, pp b2), (5, pp b3), (6, pp b4)] fun TA => ?_
 refine W.seq (W.region ?_)
 refine RW.cl ?_
 refine WC.enter (fn := Tryd.f33) Tryd.func33 rfl ?_
 refine W.rg [] fun TA => ?_
 refine W.seq (W.region ?_)
 refine RW.mk H (.row ⟨[.int .i64 0, .int .i64 0], 28, false⟩) ?_
 clear H; intro _ b5 _ H
 refine RW.nil ?_
 refine W.rg [(0, pp b5)] fun TA => ?_
 refine W.seq (W.region ?_)
 refine RW.cl ?_
 refine WC.enter (fn := Tryd.f32) Tryd.func32 rfl ?_
 refine W.rg [(0, .int .i64 0)] fun TA => ?_
 refine W.seq (W.region ?_)
 refine RW.mk H (.row ⟨[.int .i64 0, .int .i64 0], 28, false⟩) ?_
 clear H; intro _ b6 _ H
 refine RW.nil ?_
 refine W.rg [(0, .int .i64 0), (2, pp b6)] fun TA => ?_
 refine W.seq (W.region ?_)
 refine RW.v ?_
 refine RW.val (v := .agg #[.int .i64 1, .int .i64 0]) (by kernel_rfl) (by kernel_rfl) (by kernel_rfl) (by kernel_rfl) ?_
 refine RW.st H 0 [.int .i64 1, .int .i64 0] [.int .i64 1, .int .i64 0] ?_
 clear H; intro _ _ H; dsimp only [setL, delL] at H
 refine RW.nil ?_
 refine W.ret ?_
 refine endG (by rfl) (by exact resL_cell rfl (H.get 0 rfl) (by rw [uT_eq]; exact Tryd.underlying28) (by kernel_rfl) rfl rfl rfl) ?_
 refine RW.st H 1 [.int .i64 1, .int .i64 0] [.int .i64 1, .int .i64 0] ?_
 clear H; intro _ _ H; dsimp only [setL, delL] at H
 refine RW.nil ?_
 replace H := (H.del 0)
 dsimp only [setL, delL] at H
 refine W.ret ?_
 refine endG (by rfl) (by exact resL_cell rfl (H.get 0 rfl) (by rw [uT_eq]; exact Tryd.underlying28) (by kernel_rfl) rfl rfl rfl) ?_
 refine RW.mk H (.row ⟨[.int .i64 0, .int .i64 0], 28, false⟩) ?_
 clear H; intro _ b7 _ H
 refine RW.st H 0 [.int .i64 1, .int .i64 0] [.int .i64 1, .int .i64 0] ?_
 clear H; intro _ _ H; dsimp only [setL, delL] at H
 refine RW.nil ?_
 replace H := (H.del 1)
 dsimp only [setL, delL] at H
 refine W.rg [(3, pp b1), (4, pp b2), (5, pp b3), (6, pp b4), (7, pp b7)] fun TA => ?_
 refine W.seq ?_
 refine W.seq (W.region ?_)
 refine RW.ld H 4 4 ?_
 refine RW.ld H 3 2 ?_
 refine RW.cl ?_
 refine WC.enter (fn := Tryd.f65) Tryd.func65 rfl ?_
 refine W.rg [(0, .agg #[pp h, pp T, .int .i64 1, .int .i64 66]), (1, .agg #[.int .i64 w.1, .int .i64 w.2])] fun TA => ?_
 refine W.seq (W.region ?_)
 refine RW.mk H (.row ⟨[pt h, pt T, .int .i64 1, .int .i64 66], 65, false⟩) ?_
 clear H; intro _ b8 _ H
 refine RW.mk H (.row ⟨[.int .i64 w.1, .int .i64 w.2], 28, false⟩) ?_
 clear H; intro _ b9 _ H
 refine RW.v ?_
 refine RW.nil ?_
 refine W.rg [(2, pp b8), (3, pp b9)] fun TA => ?_
 refine W.seq (W.region ?_)
 refine RW.val (v := .func (.func 79) #[] #[.pointer (some ⟨b8, 0, none⟩), .pointer (some ⟨b9, 0, none⟩)]) (by kernel_rfl) (by kernel_rfl) (by kernel_rfl) (by kernel_rfl) ?_
 refine RW.v ?_
 refine RW.nil ?_
 refine W.ret ?_
 refine endG (by rfl) (by exact resL_tmp rfl) ?_
 refine RW.nil ?_
 replace H := ((H.del 6).del 5)
 dsimp only [setL, delL] at H
 refine W.rg [(5, pp b3), (6, pp b4), (7, pp b7), (13, .func (.func 79) #[] #[pp b8, pp b9])] fun TA => ?_
 refine W.block ?_
 refine W.rst [(5, .pointer (some ⟨b3, 0, none⟩)), (6, .pointer (some ⟨b4, 0, none⟩)), (7, .pointer (some ⟨b7, 0, none⟩)), (13, .func (.func 79) #[] #[.pointer (some ⟨b8, 0, none⟩), .pointer (some ⟨b9, 0, none⟩)])] ⟨rfl, rfl, rfl, rfl, trivial⟩ fun TL14 => ?_
 refine W.rangeL H rfl (fun _ h => nomatch h) (fun _ h => nomatch h) (by kernel_rfl) fun _ d10 b11 lp12 hl13 H => ?_
 refine WC.enterD (fn := Tryd.f79) Tryd.func79 rfl ?_
 refine W.rg [(0, .func (.yield b11) #[] #[]), (1, pp b8), (2, pp b9)] fun TA => ?_
 refine W.seq (W.region ?_)
 refine RW.mk H (.row ⟨[.func (.yield b11) #[] #[]], 135, false⟩) ?_
 clear H; intro _ b15 _ H
 refine RW.nil ?_
 refine W.rg [(1, pp b8), (2, pp b9), (3, pp b15)] fun TA => ?_
 refine W.seq (W.region ?_)
 refine RW.ld H 4 4 ?_
 refine RW.ld H 3 2 ?_
 refine RW.cl ?_
 refine WC.enter (fn := Tryd.f53) Tryd.func53 rfl ?_
 refine W.rg [(0, .agg #[pp h, pp T, .int .i64 1, .int .i64 66]), (1, .agg #[.int .i64 w.1, .int .i64 w.2])] fun TA => ?_
 refine W.seq (W.region ?_)
 refine RW.mk H (.row ⟨[pt h, pt T, .int .i64 1, .int .i64 66], 65, false⟩) ?_
 clear H; intro _ b16 _ H
 refine RW.mk H (.row ⟨[.int .i64 w.1, .int .i64 w.2], 28, false⟩) ?_
 clear H; intro _ b17 _ H
 refine RW.v ?_
 refine RW.nil ?_
 refine W.rg [(2, pp b16), (3, pp b17)] fun TA => ?_
 refine W.seq (W.region ?_)
 refine RW.val (v := .func (.func 72) #[] #[.pointer (some ⟨b16, 0, none⟩), .pointer (some ⟨b17, 0, none⟩)]) (by kernel_rfl) (by kernel_rfl) (by kernel_rfl) (by kernel_rfl) ?_
 refine RW.v ?_
 refine RW.nil ?_
 refine W.ret ?_
 refine endG (by rfl) (by exact resL_tmp rfl) ?_
 refine RW.nil ?_
 refine W.rg [(1, pp b8), (3, pp b15), (14, .func (.func 72) #[] #[pp b16, pp b17])] fun TA => ?_
 refine W.block ?_
 refine W.rst [(1, .pointer (some ⟨b8, 0, none⟩)), (3, .pointer (some ⟨b15, 0, none⟩)), (14, .func (.func 72) #[] #[.pointer (some ⟨b16, 0, none⟩), .pointer (some ⟨b17, 0, none⟩)])] ⟨rfl, rfl, rfl, trivial⟩ fun TL22 => ?_
 refine W.rangeL H rfl (fun _ h => nomatch h) (fun _ h => nomatch h) (by kernel_rfl) fun _ d18 b19 lp20 hl21 H => ?_
 refine WC.enter (fn := Tryd.f72) Tryd.func72 rfl ?_
 refine W.rg [(0, .func (.yield b19) #[] #[]), (1, pp b16), (2, pp b17)] fun TA => ?_
 refine W.seq (W.region ?_)
 refine RW.ld H 3 4 ?_
 refine RW.ld H 2 2 ?_
 refine RW.cl ?_
 refine ((cons_y (h := h) (T := T) M.root H).mono ?_)
 clear H
 rintro _ _ ⟨rfl, H⟩
 iterate 4 refine RW.v ?_
 refine RW.mk H (.row ⟨[.int .i64 0, .int .i64 0], 28, false⟩) ?_
 clear H; intro _ b23 _ H
 refine RW.mk H (.row ⟨[.int .i64 0, .int .i64 0], 28, false⟩) ?_
 clear H; intro _ b24 _ H
 refine RW.st H 1 [.int .i64 1, .int .i64 66] [.int .i64 1, .int .i64 66] ?_
 clear H; intro _ _ H; dsimp only [setL, delL] at H
 refine RW.st H 0 [.int .i64 ((c 0).1), .int .i64 ((c 0).2)] [.int .i64 ((c 0).1), .int .i64 ((c 0).2)] ?_
 clear H; intro _ _ H; dsimp only [setL, delL] at H
 refine RW.v ?_
 refine RW.nil ?_
 replace H := (H.del 1)
 dsimp only [setL, delL] at H
 refine W.rg [(0, .func (.yield b19) #[] #[]), (1, pp b16), (5, pp b24)] fun TA => ?_
 refine W.seq (W.region ?_)
 refine RW.v ?_
 refine RW.nil ?_
 refine W.rg [(0, .func (.yield b19) #[] #[]), (1, pp b16), (5, pp b24), (7, .int .i64 0)] fun TA => ?_
 refine W.seq (W.region ?_)
 refine RW.v ?_
 refine RW.nil ?_
 refine W.rg [(0, .func (.yield b19) #[] #[]), (1, pp b16), (5, pp b24), (7, .int .i64 0), (18, .int .i64 0)] fun TA => ?_
 refine W.block ?_
 refine W.loop (fun mm ta σ => ∃ (j : Nat), (mm + j = es.length) ∧ (j ≤ es.length) ∧ (∀ e ∈ es.take j, (pB ev) e = false) ∧ Lies G65 (heapAbs h m) F σ [.at_ b24 (.row ⟨[.int .i64 ((c j).1), .int .i64 ((c j).2)], 28, false⟩), .at_ b19 lp20, .at_ d18 (.defs true), .at_ b17 (.row ⟨[.int .i64 w.1, .int .i64 w.2], 28, false⟩), .at_ b16 (.row ⟨[.pointer (some ⟨h, 0, none⟩), .pointer (some ⟨T, 0, none⟩), .int .i64 1, .int .i64 66], 65, false⟩), .at_ b15 (.row ⟨[.func (.yield b11) #[] #[]], 135, false⟩), .at_ b11 lp12, .at_ d10 (.defs true), .at_ b9 (.row ⟨[.int .i64 w.1, .int .i64 w.2], 28, false⟩), .at_ b8 (.row ⟨[.pointer (some ⟨h, 0, none⟩), .pointer (some ⟨T, 0, none⟩), .int .i64 1, .int .i64 66], 65, false⟩), .at_ b7 (.row ⟨[.int .i64 1, .int .i64 0], 28, false⟩), .at_ b4 (.row ⟨[.int .i64 0, .int .i64 0], 28, false⟩), .at_ b3 (.row ⟨[.int .i64 ev.1, .int .i64 ev.2], 28, false⟩)] ∧ ta 0 = .func (.yield b19) #[] #[] ∧ ta 1 = .pointer (some ⟨b16, 0, none⟩) ∧ ta 5 = .pointer (some ⟨b24, 0, none⟩) ∧ ta 7 = .int .i64 0 ∧ ta 18 = .int .i64 ((j : Nat) : Int)) es.length ?_ ?_
 ·exact ⟨0, (by omega), (by omega), (fun e he => by simp at he), H, rfl, rfl, rfl, rfl, rfl⟩
 clear H
 rintro mm ta _ ⟨j, hm, hjl, hN, H, e0, e1, e5, e7, e18⟩
 refine W.rst [(0, .func (.yield b19) #[] #[]), (1, .pointer (some ⟨b16, 0, none⟩)), (5, .pointer (some ⟨b24, 0, none⟩)), (7, .int .i64 0), (18, .int .i64 ((j : Nat) : Int))] ⟨e0, e1, e5, e7, e18, trivial⟩ fun TA => ?_
 clear e0 e1 e5 e7 e18
 refine W.seq (W.region ?_)
 refine RW.valE (v' := .bool true) (by kernel_rfl) (by kernel_rfl) rfl (congrArg Value.bool (decide_eq_true (by omega))) (by kernel_rfl) ?_
 refine RW.nil ?_
 refine W.rg [(0, .func (.yield b19) #[] #[]), (1, pp b16), (5, pp b24), (7, .int .i64 0), (18, .int .i64 ((j : Nat) : Int)), (19, .bool true)] fun TA => ?_
 refine W.seq ?_
 refine W.c1 ?_
 refine W.skip ?_
 refine W.seq ?_
 refine W.block ?_
 refine W.seq (W.region ?_)
 refine RW.ld H 4 4 ?_
 refine RW.ld H 0 2 ?_
 refine RW.cl ?_
 refine ((cons_c (T := T) M hjl H).mono ?_)
 clear H
 rintro _ _ ⟨a, d, is, rfl, hs1, hs0, H⟩
 iterate 4 refine RW.v ?_
 refine RW.mk H (.row ⟨[.int .i64 0, .int .i64 0], 28, false⟩) ?_
 clear H; intro _ b25 _ H
 refine RW.mk H (.row ⟨[.int .i64 0, .int .i64 0], 28, false⟩) ?_
 clear H; intro _ b26 _ H
 refine RW.st H 1 [.int .i64 a.1, .int .i64 a.2] [.int .i64 a.1, .int .i64 a.2] ?_
 clear H; intro _ _ H; dsimp only [setL, delL] at H
 refine RW.st H 0 [.int .i64 d.1, .int .i64 d.2] [.int .i64 d.1, .int .i64 d.2] ?_
 clear H; intro _ _ H; dsimp only [setL, delL] at H
 refine RW.v ?_
 refine RW.nil ?_
 replace H := (H.del 1)
 dsimp only [setL, delL] at H
 refine W.rg [(0, .func (.yield b19) #[] #[]), (1, pp b16), (5, pp b24), (7, .int .i64 0), (9, pp b26), (10, .bool is), (18, .int .i64 ((j : Nat) : Int))] fun TA => ?_
 refine W.seq ?_
 refine W.seq (W.region ?_)
 iterate 2 refine RW.v ?_
 refine RW.nil ?_
 refine W.rg [(0, .func (.yield b19) #[] #[]), (1, pp b16), (5, pp b24), (7, .int .i64 0), (9, pp b26), (18, .int .i64 ((j : Nat) : Int)), (28, .bool (!is))] fun TA => ?_
 refine W.cond rfl (fun hc27 => ?_) (fun hc27 => ?_)
 ·have hc27b := hc27
  have hjn : j = es.length := hs0 (by simpa using hc27b)
  refine W.ret ?_
  refine seqQ_ret ?_
  refine blkQ_ret ?_
  refine seqQ_ret ?_
  refine rndQ_ret ?_
  refine blkQ_ret ?_
  refine endG (by rfl) (by exact rfl) ?_
  refine ⟨_, _, _, 2, _, _, _, _, H, rfl, hl21, rfl, rfl, ?_⟩
  clear H; intro _ H
  dsimp only [setL, delL] at H
  refine blkQ_normal ?_
  refine endMark H 2 rfl fun _ H => ?_
  dsimp only [setL, delL] at H
  refine endGD0 (by rfl) (by exact rfl) ?_
  refine ⟨_, _, _, 5, _, _, _, _, H, rfl, hl13, rfl, rfl, ?_⟩
  clear H; intro _ H
  dsimp only [setL, delL] at H
  refine blkQ_normal ?_
  refine W.seq (W.region ?_)
  refine RW.ld H 8 2 ?_
  refine RW.st H 9 [.int .i64 1, .int .i64 0] [.int .i64 1, .int .i64 0] ?_
  clear H; intro _ _ H; dsimp only [setL, delL] at H
  refine RW.nil ?_
  replace H := (((((((((H.del 10).del 8).del 7).del 6).del 4).del 3).del 2).del 1).del 0)
  dsimp only [setL, delL] at H
  refine W.ret ?_
  refine endMark H 0 rfl fun _ H => ?_
  dsimp only [setL, delL] at H
  refine endGD0 (by rfl) (by exact resL_cell rfl (H.get 0 rfl) (by rw [uT_eq]; exact Tryd.underlying28) (by kernel_rfl) rfl rfl rfl) ?_
  exact ⟨bound_none hN (by omega), (H.del 0)⟩
 ·have hc27b := hc27
  obtain ⟨hj, ha, hd⟩ := hs1 (by simpa using hc27b)
  refine W.skip ?_
  refine W.seq ?_
  refine W.seq (W.region ?_)
  refine RW.ld H 5 4 ?_
  refine RW.ld H 1 2 ?_
  refine RW.cl ?_
  refine ((isMap_o (h := h) (T := T) (M.next j hj) rfl H).mono ?_)
  clear H
  rintro _ _ ⟨rfl, H⟩
  refine RW.nil ?_
  refine W.c0 ?_
  refine W.skip ?_
  refine W.seq ?_
  refine W.seq (W.region ?_)
  iterate 2 refine RW.v ?_
  refine RW.ld H 1 2 ?_
  refine RW.yieldL H 2 rfl hl21 (by kernel_rfl) (by kernel_rfl) rfl rfl rfl rfl rfl (by kernel_rfl) ?_
  refine W.rg [(1, pp b8), (3, pp b15), (14, .func (.func 72) #[] #[pp b16, pp b17]), (15, .int .i64 0), (16, .agg #[.int .i64 ((c j).1), .int .i64 ((c j).2)])] fun TA => ?_
  refine W.seq (W.region ?_)
  refine RW.v ?_
  refine RW.nil ?_
  refine W.rg [(1, pp b8), (3, pp b15), (4, .int .i64 0), (14, .func (.func 72) #[] #[pp b16, pp b17]), (15, .int .i64 0), (16, .agg #[.int .i64 ((c j).1), .int .i64 ((c j).2)])] fun TA => ?_
  refine W.region ?_
  refine RW.mk H (.row ⟨[.int .i64 0, .int .i64 0], 28, false⟩) ?_
  clear H; intro _ b28 _ H
  refine RW.st H 0 [.int .i64 ((c j).1), .int .i64 ((c j).2)] [.int .i64 ((c j).1), .int .i64 ((c j).2)] ?_
  clear H; intro _ _ H; dsimp only [setL, delL] at H
  refine RW.nil ?_
  refine ⟨rfl, _, _, _, 3, H, rfl, ?_⟩
  clear H; intro _ lq29 hq30 H
  dsimp only [setL, delL] at H
  refine W.rg [(1, pp b8), (3, pp b15), (4, .int .i64 0), (5, pp b28), (14, .func (.func 72) #[] #[pp b16, pp b17]), (15, .int .i64 0), (16, .agg #[.int .i64 ((c j).1), .int .i64 ((c j).2)])] fun TA => ?_
  refine W.block ?_
  refine W.seq (W.region ?_)
  refine RW.ld H 11 4 ?_
  refine RW.ld H 0 2 ?_
  refine RW.cl ?_
  refine ((cons_y (h := h) (T := T) (M.next j hj) H).mono ?_)
  clear H
  rintro _ _ ⟨rfl, H⟩
  iterate 4 refine RW.v ?_
  refine RW.mk H (.row ⟨[.int .i64 0, .int .i64 0], 28, false⟩) ?_
  clear H; intro _ b31 _ H
  refine RW.mk H (.row ⟨[.int .i64 0, .int .i64 0], 28, false⟩) ?_
  clear H; intro _ b32 _ H
  refine RW.st H 1 [.int .i64 2, .int .i64 ((es.getD j me0).2.2)] [.int .i64 2, .int .i64 ((es.getD j me0).2.2)] ?_
  clear H; intro _ _ H; dsimp only [setL, delL] at H
  refine RW.st H 0 [.int .i64 ((c (j + 1)).1), .int .i64 ((c (j + 1)).2)] [.int .i64 ((c (j + 1)).1), .int .i64 ((c (j + 1)).2)] ?_
  clear H; intro _ _ H; dsimp only [setL, delL] at H
  refine RW.v ?_
  refine RW.nil ?_
  replace H := (H.del 0)
  dsimp only [setL, delL] at H
  refine W.rg [(1, pp b8), (3, pp b15), (4, .int .i64 0), (5, pp b28), (6, pp b31), (14, .func (.func 72) #[] #[pp b16, pp b17]), (15, .int .i64 0), (16, .agg #[.int .i64 ((c j).1), .int .i64 ((c j).2)])] fun TA => ?_
  refine W.seq (W.region ?_)
  refine RW.ld H 12 4 ?_
  refine RW.ld H 0 2 ?_
  refine RW.cl ?_
  refine ((cons_y (h := h) (T := T) (M.ent j hj) H).mono ?_)
  clear H
  rintro _ _ ⟨rfl, H⟩
  iterate 4 refine RW.v ?_
  refine RW.mk H (.row ⟨[.int .i64 0, .int .i64 0], 28, false⟩) ?_
  clear H; intro _ b33 _ H
  refine RW.mk H (.row ⟨[.int .i64 0, .int .i64 0], 28, false⟩) ?_
  clear H; intro _ b34 _ H
  refine RW.st H 1 [.int .i64 ((es.getD j me0).1.1), .int .i64 ((es.getD j me0).1.2)] [.int .i64 ((es.getD j me0).1.1), .int .i64 ((es.getD j me0).1.2)] ?_
  clear H; intro _ _ H; dsimp only [setL, delL] at H
  refine RW.st H 0 [.int .i64 ((es.getD j me0).2.1.1), .int .i64 ((es.getD j me0).2.1.2)] [.int .i64 ((es.getD j me0).2.1.1), .int .i64 ((es.getD j me0).2.1.2)] ?_
  clear H; intro _ _ H; dsimp only [setL, delL] at H
  refine RW.v ?_
  refine RW.nil ?_
  refine W.rg [(1, pp b8), (3, pp b15), (4, .int .i64 0), (5, pp b28), (6, pp b31), (9, pp b33), (10, pp b34), (11, .bool true), (14, .func (.func 72) #[] #[pp b16, pp b17]), (15, .int .i64 0), (16, .agg #[.int .i64 ((c j).1), .int .i64 ((c j).2)])] fun TA => ?_
  refine W.seq (W.region ?_)
  iterate 2 refine RW.v ?_
  refine RW.ldL H 14 4 (by rfl) (by kernel_rfl) rfl rfl rfl rfl rfl (by kernel_rfl) ?_
  refine RW.ldL H 3 2 (by rfl) (by kernel_rfl) rfl rfl rfl rfl rfl (by kernel_rfl) ?_
  refine RW.cl (hw := by rfl) ?_
  refine ((isMap_o (h := h) (T := T) (M.next j hj) rfl H).mono ?_)
  clear H
  rintro _ _ ⟨rfl, H⟩
  refine RW.val (by rfl) (by kernel_rfl) rfl (by kernel_rfl) ?_
  refine RW.v ?_
  refine RW.nil ?_
  replace H := (H.del 3)
  dsimp only [setL, delL] at H
  refine W.c1 ?_
  refine W.seq (W.region ?_)
  refine RW.ld H 9 1 ?_
  refine RW.v ?_
  refine RW.ld H 1 2 ?_
  refine RW.ld H 0 2 ?_
  refine RW.val (v := .agg #[.int .i64 ((es.getD j me0).1.1), .int .i64 ((es.getD j me0).1.2), .int .i64 ((es.getD j me0).2.1.1), .int .i64 ((es.getD j me0).2.1.2)]) (by kernel_rfl) (by kernel_rfl) (by kernel_rfl) (by kernel_rfl) ?_
  refine RW.ld H 2 2 ?_
  refine RW.val (v := .agg #[.int .i64 ((es.getD j me0).1.1), .int .i64 ((es.getD j me0).1.2), .int .i64 ((es.getD j me0).2.1.1), .int .i64 ((es.getD j me0).2.1.2), .int .i64 2, .int .i64 ((es.getD j me0).2.2)]) (by kernel_rfl) (by kernel_rfl) (by kernel_rfl) (by kernel_rfl) ?_
  refine RW.yieldL H 10 rfl hl13 (by kernel_rfl) (by kernel_rfl) rfl rfl rfl rfl rfl (by kernel_rfl) ?_
  refine W.rg [(5, pp b3), (6, pp b4), (7, pp b7), (13, .func (.func 79) #[] #[pp b8, pp b9]), (14, .int .i64 0), (15, .agg #[.int .i64 ((es.getD j me0).1.1), .int .i64 ((es.getD j me0).1.2), .int .i64 ((es.getD j me0).2.1.1), .int .i64 ((es.getD j me0).2.1.2), .int .i64 2, .int .i64 ((es.getD j me0).2.2)])] fun TA => ?_
  refine W.region ?_
  refine RW.mk H (.row ⟨[.int .i64 0, .int .i64 0, .int .i64 0, .int .i64 0, .int .i64 0, .int .i64 0], 73, false⟩) ?_
  clear H; intro _ b35 _ H
  refine RW.st H 0 [.int .i64 ((es.getD j me0).1.1), .int .i64 ((es.getD j me0).1.2), .int .i64 ((es.getD j me0).2.1.1), .int .i64 ((es.getD j me0).2.1.2), .int .i64 2, .int .i64 ((es.getD j me0).2.2)] [.int .i64 ((es.getD j me0).1.1), .int .i64 ((es.getD j me0).1.2), .int .i64 ((es.getD j me0).2.1.1), .int .i64 ((es.getD j me0).2.1.2), .int .i64 2, .int .i64 ((es.getD j me0).2.2)] ?_
  clear H; intro _ _ H; dsimp only [setL, delL] at H
  refine RW.nil ?_
  refine ⟨rfl, _, _, _, 11, H, rfl, ?_⟩
  clear H; intro _ lq36 hq37 H
  dsimp only [setL, delL] at H
  refine W.rg [(5, pp b3), (6, pp b4), (7, pp b7), (9, pp b35), (13, .func (.func 79) #[] #[pp b8, pp b9]), (15, .agg #[.int .i64 ((es.getD j me0).1.1), .int .i64 ((es.getD j me0).1.2), .int .i64 ((es.getD j me0).2.1.1), .int .i64 ((es.getD j me0).2.1.2), .int .i64 2, .int .i64 ((es.getD j me0).2.2)])] fun TA => ?_
  refine W.block ?_
  refine W.block ?_
  refine W.seq ?_
  refine W.drawn (by kernel_rfl) (by kernel_rfl) H.gn ?_
  have H38 := H
  iterate 2 refine RW.v ?_
  refine RW.ld H38 0 2 ?_
  refine RW.cl ?_
  refine WC.enter (fn := Tryd.f33) Tryd.func33 rfl ?_
  replace H := H38
  refine W.rg [] fun TA => ?_
  refine W.seq (W.region ?_)
  refine RW.mk H (.row ⟨[.int .i64 0, .int .i64 0], 28, false⟩) ?_
  clear H; intro _ b39 _ H
  refine RW.nil ?_
  refine W.rg [(0, pp b39)] fun TA => ?_
  refine W.seq (W.region ?_)
  refine RW.cl ?_
  refine WC.enter (fn := Tryd.f32) Tryd.func32 rfl ?_
  refine W.rg [(0, .int .i64 0)] fun TA => ?_
  refine W.seq (W.region ?_)
  refine RW.mk H (.row ⟨[.int .i64 0, .int .i64 0], 28, false⟩) ?_
  clear H; intro _ b40 _ H
  refine RW.nil ?_
  refine W.rg [(0, .int .i64 0), (2, pp b40)] fun TA => ?_
  refine W.seq (W.region ?_)
  refine RW.v ?_
  refine RW.val (v := .agg #[.int .i64 1, .int .i64 0]) (by kernel_rfl) (by kernel_rfl) (by kernel_rfl) (by kernel_rfl) ?_
  refine RW.st H 0 [.int .i64 1, .int .i64 0] [.int .i64 1, .int .i64 0] ?_
  clear H; intro _ _ H; dsimp only [setL, delL] at H
  refine RW.nil ?_
  refine W.ret ?_
  refine endG (by rfl) (by exact resL_cell rfl (H.get 0 rfl) (by rw [uT_eq]; exact Tryd.underlying28) (by kernel_rfl) rfl rfl rfl) ?_
  refine RW.st H 1 [.int .i64 1, .int .i64 0] [.int .i64 1, .int .i64 0] ?_
  clear H; intro _ _ H; dsimp only [setL, delL] at H
  refine RW.nil ?_
  replace H := (H.del 0)
  dsimp only [setL, delL] at H
  refine W.ret ?_
  refine endG (by rfl) (by exact resL_cell rfl (H.get 0 rfl) (by rw [uT_eq]; exact Tryd.underlying28) (by kernel_rfl) rfl rfl rfl) ?_
  have H41 := H
  refine RW.vop (v := .bool (((es.getD j me0).2.1.1) == 1 && ((es.getD j me0).2.1.2) == 0)) (by kernel_rfl) (by kernel_rfl) (vop_eqS (b := (((es.getD j me0).2.1.1) == 1 && ((es.getD j me0).2.1.2) == 0)) (r := (((es.getD j me0).2.1.1) == 1 && ((es.getD j me0).2.1.2) == 0)) rfl (.inl ⟨rfl, rfl⟩) rfl rfl rfl rfl (by kernel_rfl) (fun w => eqWd _ _ _ _ w)) (by kernel_rfl) ?_
  refine RW.v ?_
  refine RW.nil ?_
  refine ⟨⟨by kernel_rfl, ⟨trivial, trivial, dyn_row (H38.get 0 rfl) (H41.get 1 rfl) ⟨fun h => Bool.noConfusion h, fun h => Bool.noConfusion h, fun h => Bool.noConfusion h, fun _ => H38.get 0 rfl, fun h => Bool.noConfusion h, fun h => Bool.noConfusion h, trivial⟩, trivial, trivial, trivial, trivial⟩⟩, ?_⟩
  replace H := H41
  clear H38 H41
  replace H := (H.del 0)
  dsimp only [setL, delL] at H
  refine W.rg [(5, pp b3), (6, pp b4), (7, pp b7), (9, pp b35), (13, .func (.func 79) #[] #[pp b8, pp b9]), (15, .agg #[.int .i64 ((es.getD j me0).1.1), .int .i64 ((es.getD j me0).1.2), .int .i64 ((es.getD j me0).2.1.1), .int .i64 ((es.getD j me0).2.1.2), .int .i64 2, .int .i64 ((es.getD j me0).2.2)]), (16, .bool (((es.getD j me0).2.1.1) == 1 && ((es.getD j me0).2.1.2) == 0))] fun TA => ?_
  refine W.cond rfl (fun hc42 => ?_) (fun hc42 => ?_)
  ·have hc42b := hc42
   refine W.skip ?_
   refine blkQ_normal ?_
   refine blkQ_normal ?_
   refine ⟨_, _, _, 11, true, .ready, none, H, rfl, rfl, ?_⟩
   clear H; intro _ lr43 _ hr44 H
   dsimp only [setL, delL] at H
   refine RW.v ?_
   refine RW.nil ?_
   replace H := ((((H.del 3).del 2).del 1).del 0)
   dsimp only [setL, delL] at H
   refine W.c0 ?_
   refine W.skip ?_
   refine blkQ_normal ?_
   refine ⟨_, _, _, 2, true, .ready, none, H, rfl, rfl, ?_⟩
   clear H; intro _ lr45 _ hr46 H
   dsimp only [setL, delL] at H
   refine RW.v ?_
   refine RW.nil ?_
   refine W.c0 ?_
   refine W.skip ?_
   refine W.region ?_
   refine RW.ld H 0 2 ?_
   refine RW.st H 1 [.int .i64 d.1, .int .i64 d.2] [.int .i64 d.1, .int .i64 d.2] ?_
   clear H; intro _ _ H; dsimp only [setL, delL] at H
   refine RW.nil ?_
   replace H := (H.del 0)
   dsimp only [setL, delL] at H
   refine blkQ_normal ?_
   refine W.rg [(0, .func (.yield b19) #[] #[]), (1, pp b16), (5, pp b24), (7, .int .i64 0), (18, .int .i64 ((j : Nat) : Int))] fun TA => ?_
   refine W.region ?_
   refine RW.valE (v' := .int .i64 (((j : Nat) : Int) + 1)) (by kernel_rfl) (by kernel_rfl) rfl (congrArg (Value.int .i64) (wrap_in (by omega) (by omega))) (by kernel_rfl) ?_
   refine RW.v ?_
   refine RW.nil ?_
   rw [show lr45 = lp20 from hr46.trans hl21.symm] at H
   rw [show lr43 = lp12 from hr44.trans hl13.symm] at H
   rw [hd] at H
   exact ⟨rfl, mm - 1, by omega, j + 1, (by omega), (by omega), (take_next (by omega) hN (by unfold pB; rw [hc42b] <;> first | rfl | simp only [Bool.not_true, Bool.and_false])), H, rfl, rfl, rfl, rfl, rfl⟩
  ·have hc42b := hc42
   refine W.seq (W.region ?_)
   iterate 2 refine RW.v ?_
   refine RW.ld H 0 2 ?_
   refine RW.ld H 17 2 ?_
   refine RW.vop (v := .bool (((es.getD j me0).1.1) == ev.1 && ((es.getD j me0).1.2) == ev.2)) (by kernel_rfl) (by kernel_rfl) (vop_eqS (b := (((es.getD j me0).1.1) == ev.1 && ((es.getD j me0).1.2) == ev.2)) (r := (((es.getD j me0).1.1) == ev.1 && ((es.getD j me0).1.2) == ev.2)) rfl (.inl ⟨rfl, rfl⟩) rfl rfl rfl rfl (by kernel_rfl) (fun w => eqWd _ _ _ _ w)) (by kernel_rfl) ?_
   refine RW.v ?_
   refine RW.nil ?_
   refine W.rg [(5, pp b3), (6, pp b4), (7, pp b7), (9, pp b35), (13, .func (.func 79) #[] #[pp b8, pp b9]), (15, .agg #[.int .i64 ((es.getD j me0).1.1), .int .i64 ((es.getD j me0).1.2), .int .i64 ((es.getD j me0).2.1.1), .int .i64 ((es.getD j me0).2.1.2), .int .i64 2, .int .i64 ((es.getD j me0).2.2)]), (22, .bool (((es.getD j me0).1.1) == ev.1 && ((es.getD j me0).1.2) == ev.2))] fun TA => ?_
   refine W.cond rfl (fun hc47 => ?_) (fun hc47 => ?_)
   ·have hc47b := hc47
    refine W.seq (W.region ?_)
    iterate 2 refine RW.v ?_
    refine RW.ld H 0 2 ?_
    refine RW.st H 16 [.int .i64 ((es.getD j me0).2.1.1), .int .i64 ((es.getD j me0).2.1.2)] [.int .i64 ((es.getD j me0).2.1.1), .int .i64 ((es.getD j me0).2.1.2)] ?_
    clear H; intro _ _ H; dsimp only [setL, delL] at H
    refine RW.nil ?_
    replace H := (H.del 0)
    dsimp only [setL, delL] at H
    refine W.ret ?_
    refine blkQ_ret ?_
    refine blkQ_ret ?_
    refine ⟨_, _, _, 10, false, .done, (some .ret), H, rfl, rfl, ?_⟩
    clear H; intro _ lr48 _ hr49 H
    dsimp only [setL, delL] at H
    refine RW.v ?_
    refine RW.nil ?_
    replace H := (((H.del 2).del 1).del 0)
    dsimp only [setL, delL] at H
    refine W.c1 ?_
    refine W.ret ?_
    refine blkQ_ret ?_
    refine ⟨_, _, _, 2, false, .done, (some .ret), H, rfl, rfl, ?_⟩
    clear H; intro _ lr50 _ hr51 H
    dsimp only [setL, delL] at H
    refine RW.v ?_
    refine RW.nil ?_
    refine W.c1 ?_
    refine W.ret ?_
    refine seqQ_ret ?_
    refine blkQ_ret ?_
    refine seqQ_ret ?_
    refine rndQ_ret ?_
    refine blkQ_ret ?_
    refine endG (by rfl) (by exact rfl) ?_
    refine ⟨_, _, _, 2, _, _, _, _, H, rfl, hr51, rfl, rfl, ?_⟩
    clear H; intro _ H
    dsimp only [setL, delL] at H
    refine blkQ_ret ?_
    refine endMark H 2 rfl fun _ H => ?_
    dsimp only [setL, delL] at H
    refine endGD0 (by rfl) (by exact rfl) ?_
    refine ⟨_, _, _, 5, _, _, _, _, H, rfl, hr49, rfl, rfl, ?_⟩
    clear H; intro _ H
    dsimp only [setL, delL] at H
    refine blkQ_ret ?_
    refine seqQ_ret ?_
    refine endMark H 5 rfl fun _ H => ?_
    dsimp only [setL, delL] at H
    refine endGD0 (by rfl) (by exact resL_cell rfl (H.get 8 rfl) (by rw [uT_eq]; exact Tryd.underlying28) (by kernel_rfl) rfl rfl rfl) ?_
    exact ⟨bound_hit (by omega) hN (by unfold pB; rw [hc42b, hc47b] <;> first | rfl | simp only [Bool.not_true, Bool.and_false]), ((((((((((H.del 9).del 8).del 7).del 6).del 5).del 4).del 3).del 2).del 1).del 0)⟩
   ·have hc47b := hc47
    refine W.seq ?_
    refine W.drawn (by kernel_rfl) (by kernel_rfl) H.gn ?_
    have H52 := H
    iterate 2 refine RW.v ?_
    refine RW.ld H52 0 2 ?_
    refine RW.cl ?_
    refine WC.enter (fn := Tryd.f32) Tryd.func32 rfl ?_
    replace H := H52
    refine W.rg [(0, .int .i64 1)] fun TA => ?_
    refine W.seq (W.region ?_)
    refine RW.mk H (.row ⟨[.int .i64 0, .int .i64 0], 28, false⟩) ?_
    clear H; intro _ b53 _ H
    refine RW.nil ?_
    refine W.rg [(0, .int .i64 1), (2, pp b53)] fun TA => ?_
    refine W.seq (W.region ?_)
    refine RW.v ?_
    refine RW.val (v := .agg #[.int .i64 1, .int .i64 1]) (by kernel_rfl) (by kernel_rfl) (by kernel_rfl) (by kernel_rfl) ?_
    refine RW.st H 0 [.int .i64 1, .int .i64 1] [.int .i64 1, .int .i64 1] ?_
    clear H; intro _ _ H; dsimp only [setL, delL] at H
    refine RW.nil ?_
    refine W.ret ?_
    refine endG (by rfl) (by exact resL_cell rfl (H.get 0 rfl) (by rw [uT_eq]; exact Tryd.underlying28) (by kernel_rfl) rfl rfl rfl) ?_
    have H54 := H
    refine RW.vop (v := .bool false) (by kernel_rfl) (by kernel_rfl) (vop_eqS (b := false) (r := false) rfl (.inl ⟨rfl, rfl⟩) rfl rfl rfl rfl (by kernel_rfl) (fun w => (eqWd _ _ _ _ w).trans (by (first | refine congrArg (Result.ok · w) ?_ | skip); exact hT j hj))) (by kernel_rfl) ?_
    refine RW.v ?_
    refine RW.skip (by rfl) (by kernel_rfl) ?_
    refine RW.skip (by rfl) (by kernel_rfl) ?_
    refine RW.skip (by rfl) (by kernel_rfl) ?_
    iterate 2 refine RW.v ?_
    refine RW.nil ?_
    refine ⟨⟨by kernel_rfl, ⟨trivial, trivial, dyn_row (H52.get 0 rfl) (H54.get 1 rfl) ⟨fun h => Bool.noConfusion h, fun h => Bool.noConfusion h, fun h => Bool.noConfusion h, fun _ => H52.get 0 rfl, fun h => Bool.noConfusion h, fun h => Bool.noConfusion h, fun h => Bool.noConfusion h, fun h => Bool.noConfusion h, fun h => Bool.noConfusion h, fun h => Bool.noConfusion h, fun h => Bool.noConfusion h, trivial⟩, trivial, trivial, trivial, trivial, trivial, trivial, trivial, trivial, trivial⟩⟩, ?_⟩
    replace H := H54
    clear H52 H54
    replace H := (H.del 0)
    dsimp only [setL, delL] at H
    refine W.c0 ?_
    refine W.skip ?_
    refine blkQ_normal ?_
    refine blkQ_normal ?_
    refine ⟨_, _, _, 11, true, .ready, none, H, rfl, rfl, ?_⟩
    clear H; intro _ lr55 _ hr56 H
    dsimp only [setL, delL] at H
    refine RW.v ?_
    refine RW.nil ?_
    replace H := ((((H.del 3).del 2).del 1).del 0)
    dsimp only [setL, delL] at H
    refine W.c0 ?_
    refine W.skip ?_
    refine blkQ_normal ?_
    refine ⟨_, _, _, 2, true, .ready, none, H, rfl, rfl, ?_⟩
    clear H; intro _ lr57 _ hr58 H
    dsimp only [setL, delL] at H
    refine RW.v ?_
    refine RW.nil ?_
    refine W.c0 ?_
    refine W.skip ?_
    refine W.region ?_
    refine RW.ld H 0 2 ?_
    refine RW.st H 1 [.int .i64 d.1, .int .i64 d.2] [.int .i64 d.1, .int .i64 d.2] ?_
    clear H; intro _ _ H; dsimp only [setL, delL] at H
    refine RW.nil ?_
    replace H := (H.del 0)
    dsimp only [setL, delL] at H
    refine blkQ_normal ?_
    refine W.rg [(0, .func (.yield b19) #[] #[]), (1, pp b16), (5, pp b24), (7, .int .i64 0), (18, .int .i64 ((j : Nat) : Int))] fun TA => ?_
    refine W.region ?_
    refine RW.valE (v' := .int .i64 (((j : Nat) : Int) + 1)) (by kernel_rfl) (by kernel_rfl) rfl (congrArg (Value.int .i64) (wrap_in (by omega) (by omega))) (by kernel_rfl) ?_
    refine RW.v ?_
    refine RW.nil ?_
    rw [show lr57 = lp20 from hr58.trans hl21.symm] at H
    rw [show lr55 = lp12 from hr56.trans hl13.symm] at H
    rw [hd] at H
    exact ⟨rfl, mm - 1, by omega, j + 1, (by omega), (by omega), (take_next (by omega) hN (by unfold pB; rw [hc42b, hc47b] <;> first | rfl | simp only [Bool.not_true, Bool.and_false])), H, rfl, rfl, rfl, rfl, rfl⟩
set_option maxHeartbeats 16000000 in
theorem ownA_wc {w ev : Wd} {c : Nat → Wd} {es : List Me} (M : MapC m w c es) (hn : es.length < 65535) (hG : G65 ≤ σ0.next) (ha : σ0.abs = heapAbs h m) : WC G65 Tryd.prog 38 #[.agg #[.pointer (some ⟨h, 0, none⟩), .pointer (some ⟨T, 0, none⟩), .int .i64 1, .int .i64 66], wdV w, wdV ev, .func (.func 39) #[] #[]] σ0 fun v σ' => v = ownV (pA ev) es ∧ Lies G65 (heapAbs h m) σ0.get σ' [] := by
 have H := Lies.start hG ha
 generalize σ0.get = F at H ⊢
 refine WC.enterD (fn := Tryd.f38) Tryd.func38 rfl ?_
 refine W.rg [(0, .agg #[pp h, pp T, .int .i64 1, .int .i64 66]), (1, .agg #[.int .i64 w.1, .int .i64 w.2]), (2, .agg #[.int .i64 ev.1, .int .i64 ev.2]), (3, .func (.func 39) #[] #[])] fun TA => ?_
 refine W.seq (W.region ?_)
 refine RW.mk H (.row ⟨[pt h, pt T, .int .i64 1, .int .i64 66], 65, false⟩) ?_
 clear H; intro _ b1 _ H
 refine RW.mk H (.row ⟨[.int .i64 w.1, .int .i64 w.2], 28, false⟩) ?_
 clear H; intro _ b2 _ H
 refine RW.mk H (.row ⟨[.int .i64 ev.1, .int .i64 ev.2], 28, false⟩) ?_
 clear H; intro _ b3 _ H
 refine RW.mk H (.row ⟨[.func (.func 39) #[] #[]], 69, false⟩) ?_
 clear H; intro _ b4 _ H
 refine RW.mk H (.row ⟨[.int .i64 0, .int .i64 0, .int .i64 0, .int .i64 0, .int .i64 0, .int .i64 0], 73, false⟩) ?_
 clear H; intro _ b5 _ H
 refine RW.mk H (.row ⟨[.bool false], 4, false⟩) ?_
 clear H; intro _ b6 _ H
 refine RW.nil ?_
 refine W.rg [(4, pp b1), (5, pp b2), (6, pp b3), (7, pp b4), (8, pp b5), (9, pp b6)] fun TA => ?_
 refine W.seq ?_
 refine W.seq (W.region ?_)
 refine RW.ld H 5 4 ?_
 refine RW.ld H 4 2 ?_
 refine RW.cl ?_
 refine WC.enter (fn := Tryd.f65) Tryd.func65 rfl ?_
 refine W.rg [(0, .agg #[pp h, pp T, .int .i64 1, .int .i64 66]), (1, .agg #[.int .i64 w.1, .int .i64 w.2])] fun TA => ?_
 refine W.seq (W.region ?_)
 refine RW.mk H (.row ⟨[pt h, pt T, .int .i64 1, .int .i64 66], 65, false⟩) ?_
 clear H; intro _ b7 _ H
 refine RW.mk H (.row ⟨[.int .i64 w.1, .int .i64 w.2], 28, false⟩) ?_
 clear H; intro _ b8 _ H
 refine RW.v ?_
 refine RW.nil ?_
 refine W.rg [(2, pp b7), (3, pp b8)] fun TA => ?_
 refine W.seq (W.region ?_)
 refine RW.val (v := .func (.func 79) #[] #[.pointer (some ⟨b7, 0, none⟩), .pointer (some ⟨b8, 0, none⟩)]) (by kernel_rfl) (by kernel_rfl) (by kernel_rfl) (by kernel_rfl) ?_
 refine RW.v ?_
 refine RW.nil ?_
 refine W.ret ?_
 refine endG (by rfl) (by exact resL_tmp rfl) ?_
 refine RW.nil ?_
 replace H := ((H.del 7).del 6)
 dsimp only [setL, delL] at H
 refine W.rg [(6, pp b3), (7, pp b4), (8, pp b5), (9, pp b6), (14, .func (.func 79) #[] #[pp b7, pp b8])] fun TA => ?_
 refine W.block ?_
 refine W.rst [(6, .pointer (some ⟨b3, 0, none⟩)), (7, .pointer (some ⟨b4, 0, none⟩)), (8, .pointer (some ⟨b5, 0, none⟩)), (9, .pointer (some ⟨b6, 0, none⟩)), (14, .func (.func 79) #[] #[.pointer (some ⟨b7, 0, none⟩), .pointer (some ⟨b8, 0, none⟩)])] ⟨rfl, rfl, rfl, rfl, rfl, trivial⟩ fun TL13 => ?_
 refine W.rangeL H rfl (fun _ h => nomatch h) (fun _ h => nomatch h) (by kernel_rfl) fun _ d9 b10 lp11 hl12 H => ?_
 refine WC.enterD (fn := Tryd.f79) Tryd.func79 rfl ?_
 refine W.rg [(0, .func (.yield b10) #[] #[]), (1, pp b7), (2, pp b8)] fun TA => ?_
 refine W.seq (W.region ?_)
 refine RW.mk H (.row ⟨[.func (.yield b10) #[] #[]], 135, false⟩) ?_
 clear H; intro _ b14 _ H
 refine RW.nil ?_
 refine W.rg [(1, pp b7), (2, pp b8), (3, pp b14)] fun TA => ?_
 refine W.seq (W.region ?_)
 refine RW.ld H 4 4 ?_
 refine RW.ld H 3 2 ?_
 refine RW.cl ?_
 refine WC.enter (fn := Tryd.f53) Tryd.func53 rfl ?_
 refine W.rg [(0, .agg #[pp h, pp T, .int .i64 1, .int .i64 66]), (1, .agg #[.int .i64 w.1, .int .i64 w.2])] fun TA => ?_
 refine W.seq (W.region ?_)
 refine RW.mk H (.row ⟨[pt h, pt T, .int .i64 1, .int .i64 66], 65, false⟩) ?_
 clear H; intro _ b15 _ H
 refine RW.mk H (.row ⟨[.int .i64 w.1, .int .i64 w.2], 28, false⟩) ?_
 clear H; intro _ b16 _ H
 refine RW.v ?_
 refine RW.nil ?_
 refine W.rg [(2, pp b15), (3, pp b16)] fun TA => ?_
 refine W.seq (W.region ?_)
 refine RW.val (v := .func (.func 72) #[] #[.pointer (some ⟨b15, 0, none⟩), .pointer (some ⟨b16, 0, none⟩)]) (by kernel_rfl) (by kernel_rfl) (by kernel_rfl) (by kernel_rfl) ?_
 refine RW.v ?_
 refine RW.nil ?_
 refine W.ret ?_
 refine endG (by rfl) (by exact resL_tmp rfl) ?_
 refine RW.nil ?_
 refine W.rg [(1, pp b7), (3, pp b14), (14, .func (.func 72) #[] #[pp b15, pp b16])] fun TA => ?_
 refine W.block ?_
 refine W.rst [(1, .pointer (some ⟨b7, 0, none⟩)), (3, .pointer (some ⟨b14, 0, none⟩)), (14, .func (.func 72) #[] #[.pointer (some ⟨b15, 0, none⟩), .pointer (some ⟨b16, 0, none⟩)])] ⟨rfl, rfl, rfl, trivial⟩ fun TL21 => ?_
 refine W.rangeL H rfl (fun _ h => nomatch h) (fun _ h => nomatch h) (by kernel_rfl) fun _ d17 b18 lp19 hl20 H => ?_
 refine WC.enter (fn := Tryd.f72) Tryd.func72 rfl ?_
 refine W.rg [(0, .func (.yield b18) #[] #[]), (1, pp b15), (2, pp b16)] fun TA => ?_
 refine W.seq (W.region ?_)
 refine RW.ld H 3 4 ?_
 refine RW.ld H 2 2 ?_
 refine RW.cl ?_
 refine ((cons_y (h := h) (T := T) M.root H).mono ?_)
 clear H
 rintro _ _ ⟨rfl, H⟩
 iterate 4 refine RW.v ?_
 refine RW.mk H (.row ⟨[.int .i64 0, .int .i64 0], 28, false⟩) ?_
 clear H; intro _ b22 _ H
 refine RW.mk H (.row ⟨[.int .i64 0, .int .i64 0], 28, false⟩) ?_
 clear H; intro _ b23 _ H
 refine RW.st H 1 [.int .i64 1, .int .i64 66] [.int .i64 1, .int .i64 66] ?_
 clear H; intro _ _ H; dsimp only [setL, delL] at H
 refine RW.st H 0 [.int .i64 ((c 0).1), .int .i64 ((c 0).2)] [.int .i64 ((c 0).1), .int .i64 ((c 0).2)] ?_
 clear H; intro _ _ H; dsimp only [setL, delL] at H
 refine RW.v ?_
 refine RW.nil ?_
 replace H := (H.del 1)
 dsimp only [setL, delL] at H
 refine W.rg [(0, .func (.yield b18) #[] #[]), (1, pp b15), (5, pp b23)] fun TA => ?_
 refine W.seq (W.region ?_)
 refine RW.v ?_
 refine RW.nil ?_
 refine W.rg [(0, .func (.yield b18) #[] #[]), (1, pp b15), (5, pp b23), (7, .int .i64 0)] fun TA => ?_
 refine W.seq (W.region ?_)
 refine RW.v ?_
 refine RW.nil ?_
 refine W.rg [(0, .func (.yield b18) #[] #[]), (1, pp b15), (5, pp b23), (7, .int .i64 0), (18, .int .i64 0)] fun TA => ?_
 refine W.block ?_
 refine W.loop (fun mm ta σ => ∃ (j : Nat), (mm + j = es.length) ∧ (j ≤ es.length) ∧ (∀ e ∈ es.take j, (pA ev) e = false) ∧ Lies G65 (heapAbs h m) F σ [.at_ b23 (.row ⟨[.int .i64 ((c j).1), .int .i64 ((c j).2)], 28, false⟩), .at_ b18 lp19, .at_ d17 (.defs true), .at_ b16 (.row ⟨[.int .i64 w.1, .int .i64 w.2], 28, false⟩), .at_ b15 (.row ⟨[.pointer (some ⟨h, 0, none⟩), .pointer (some ⟨T, 0, none⟩), .int .i64 1, .int .i64 66], 65, false⟩), .at_ b14 (.row ⟨[.func (.yield b10) #[] #[]], 135, false⟩), .at_ b10 lp11, .at_ d9 (.defs true), .at_ b8 (.row ⟨[.int .i64 w.1, .int .i64 w.2], 28, false⟩), .at_ b7 (.row ⟨[.pointer (some ⟨h, 0, none⟩), .pointer (some ⟨T, 0, none⟩), .int .i64 1, .int .i64 66], 65, false⟩), .at_ b6 (.row ⟨[.bool false], 4, false⟩), .at_ b5 (.row ⟨[.int .i64 0, .int .i64 0, .int .i64 0, .int .i64 0, .int .i64 0, .int .i64 0], 73, false⟩), .at_ b4 (.row ⟨[.func (.func 39) #[] #[]], 69, false⟩), .at_ b3 (.row ⟨[.int .i64 ev.1, .int .i64 ev.2], 28, false⟩)] ∧ ta 0 = .func (.yield b18) #[] #[] ∧ ta 1 = .pointer (some ⟨b15, 0, none⟩) ∧ ta 5 = .pointer (some ⟨b23, 0, none⟩) ∧ ta 7 = .int .i64 0 ∧ ta 18 = .int .i64 ((j : Nat) : Int)) es.length ?_ ?_
 ·exact ⟨0, (by omega), (by omega), (fun e he => by simp at he), H, rfl, rfl, rfl, rfl, rfl⟩
 clear H
 rintro mm ta _ ⟨j, hm, hjl, hN, H, e0, e1, e5, e7, e18⟩
 refine W.rst [(0, .func (.yield b18) #[] #[]), (1, .pointer (some ⟨b15, 0, none⟩)), (5, .pointer (some ⟨b23, 0, none⟩)), (7, .int .i64 0), (18, .int .i64 ((j : Nat) : Int))] ⟨e0, e1, e5, e7, e18, trivial⟩ fun TA => ?_
 clear e0 e1 e5 e7 e18
 refine W.seq (W.region ?_)
 refine RW.valE (v' := .bool true) (by kernel_rfl) (by kernel_rfl) rfl (congrArg Value.bool (decide_eq_true (by omega))) (by kernel_rfl) ?_
 refine RW.nil ?_
 refine W.rg [(0, .func (.yield b18) #[] #[]), (1, pp b15), (5, pp b23), (7, .int .i64 0), (18, .int .i64 ((j : Nat) : Int)), (19, .bool true)] fun TA => ?_
 refine W.seq ?_
 refine W.c1 ?_
 refine W.skip ?_
 refine W.seq ?_
 refine W.block ?_
 refine W.seq (W.region ?_)
 refine RW.ld H 4 4 ?_
 refine RW.ld H 0 2 ?_
 refine RW.cl ?_
 refine ((cons_c (T := T) M hjl H).mono ?_)
 clear H
 rintro _ _ ⟨a, d, is, rfl, hs1, hs0, H⟩
 iterate 4 refine RW.v ?_
 refine RW.mk H (.row ⟨[.int .i64 0, .int .i64 0], 28, false⟩) ?_
 clear H; intro _ b24 _ H
 refine RW.mk H (.row ⟨[.int .i64 0, .int .i64 0], 28, false⟩) ?_
 clear H; intro _ b25 _ H
 refine RW.st H 1 [.int .i64 a.1, .int .i64 a.2] [.int .i64 a.1, .int .i64 a.2] ?_
 clear H; intro _ _ H; dsimp only [setL, delL] at H
 refine RW.st H 0 [.int .i64 d.1, .int .i64 d.2] [.int .i64 d.1, .int .i64 d.2] ?_
 clear H; intro _ _ H; dsimp only [setL, delL] at H
 refine RW.v ?_
 refine RW.nil ?_
 replace H := (H.del 1)
 dsimp only [setL, delL] at H
 refine W.rg [(0, .func (.yield b18) #[] #[]), (1, pp b15), (5, pp b23), (7, .int .i64 0), (9, pp b25), (10, .bool is), (18, .int .i64 ((j : Nat) : Int))] fun TA => ?_
 refine W.seq ?_
 refine W.seq (W.region ?_)
 iterate 2 refine RW.v ?_
 refine RW.nil ?_
 refine W.rg [(0, .func (.yield b18) #[] #[]), (1, pp b15), (5, pp b23), (7, .int .i64 0), (9, pp b25), (18, .int .i64 ((j : Nat) : Int)), (28, .bool (!is))] fun TA => ?_
 refine W.cond rfl (fun hc26 => ?_) (fun hc26 => ?_)
 ·have hc26b := hc26
  have hjn : j = es.length := hs0 (by simpa using hc26b)
  refine W.ret ?_
  refine seqQ_ret ?_
  refine blkQ_ret ?_
  refine seqQ_ret ?_
  refine rndQ_ret ?_
  refine blkQ_ret ?_
  refine endG (by rfl) (by exact rfl) ?_
  refine ⟨_, _, _, 2, _, _, _, _, H, rfl, hl20, rfl, rfl, ?_⟩
  clear H; intro _ H
  dsimp only [setL, delL] at H
  refine blkQ_normal ?_
  refine endMark H 2 rfl fun _ H => ?_
  dsimp only [setL, delL] at H
  refine endGD0 (by rfl) (by exact rfl) ?_
  refine ⟨_, _, _, 5, _, _, _, _, H, rfl, hl12, rfl, rfl, ?_⟩
  clear H; intro _ H
  dsimp only [setL, delL] at H
  refine blkQ_normal ?_
  refine W.seq (W.region ?_)
  refine RW.val (v := .agg #[.int .i64 0, .int .i64 0, .int .i64 0, .int .i64 0, .int .i64 0, .int .i64 0]) (by kernel_rfl) (by kernel_rfl) (by kernel_rfl) (by kernel_rfl) ?_
  refine RW.st H 9 [.int .i64 0, .int .i64 0, .int .i64 0, .int .i64 0, .int .i64 0, .int .i64 0] [.int .i64 0, .int .i64 0, .int .i64 0, .int .i64 0, .int .i64 0, .int .i64 0] ?_
  clear H; intro _ _ H; dsimp only [setL, delL] at H
  refine RW.st H 8 [.bool false] [.bool false] ?_
  clear H; intro _ _ H; dsimp only [setL, delL] at H
  refine RW.nil ?_
  replace H := (((((((((H.del 11).del 10).del 7).del 6).del 4).del 3).del 2).del 1).del 0)
  dsimp only [setL, delL] at H
  refine W.ret ?_
  refine endMark H 0 rfl fun _ H => ?_
  dsimp only [setL, delL] at H
  refine endGD0 (by rfl) (by exact resL_cell rfl (H.get 1 rfl) (by rw [uT_eq]; exact Tryd.underlying73) (by kernel_rfl) rfl rfl (by exact resL_cell rfl (H.get 0 rfl) (by rw [uT_eq]; exact Tryd.underlying4) (by kernel_rfl) rfl rfl rfl)) ?_
  exact ⟨ownV_none hN (by omega), ((H.del 1).del 0)⟩
 ·have hc26b := hc26
  obtain ⟨hj, ha, hd⟩ := hs1 (by simpa using hc26b)
  refine W.skip ?_
  refine W.seq ?_
  refine W.seq (W.region ?_)
  refine RW.ld H 5 4 ?_
  refine RW.ld H 1 2 ?_
  refine RW.cl ?_
  refine ((isMap_o (h := h) (T := T) (M.next j hj) rfl H).mono ?_)
  clear H
  rintro _ _ ⟨rfl, H⟩
  refine RW.nil ?_
  refine W.c0 ?_
  refine W.skip ?_
  refine W.seq ?_
  refine W.seq (W.region ?_)
  iterate 2 refine RW.v ?_
  refine RW.ld H 1 2 ?_
  refine RW.yieldL H 2 rfl hl20 (by kernel_rfl) (by kernel_rfl) rfl rfl rfl rfl rfl (by kernel_rfl) ?_
  refine W.rg [(1, pp b7), (3, pp b14), (14, .func (.func 72) #[] #[pp b15, pp b16]), (15, .int .i64 0), (16, .agg #[.int .i64 ((c j).1), .int .i64 ((c j).2)])] fun TA => ?_
  refine W.seq (W.region ?_)
  refine RW.v ?_
  refine RW.nil ?_
  refine W.rg [(1, pp b7), (3, pp b14), (4, .int .i64 0), (14, .func (.func 72) #[] #[pp b15, pp b16]), (15, .int .i64 0), (16, .agg #[.int .i64 ((c j).1), .int .i64 ((c j).2)])] fun TA => ?_
  refine W.region ?_
  refine RW.mk H (.row ⟨[.int .i64 0, .int .i64 0], 28, false⟩) ?_
  clear H; intro _ b27 _ H
  refine RW.st H 0 [.int .i64 ((c j).1), .int .i64 ((c j).2)] [.int .i64 ((c j).1), .int .i64 ((c j).2)] ?_
  clear H; intro _ _ H; dsimp only [setL, delL] at H
  refine RW.nil ?_
  refine ⟨rfl, _, _, _, 3, H, rfl, ?_⟩
  clear H; intro _ lq28 hq29 H
  dsimp only [setL, delL] at H
  refine W.rg [(1, pp b7), (3, pp b14), (4, .int .i64 0), (5, pp b27), (14, .func (.func 72) #[] #[pp b15, pp b16]), (15, .int .i64 0), (16, .agg #[.int .i64 ((c j).1), .int .i64 ((c j).2)])] fun TA => ?_
  refine W.block ?_
  refine W.seq (W.region ?_)
  refine RW.ld H 11 4 ?_
  refine RW.ld H 0 2 ?_
  refine RW.cl ?_
  refine ((cons_y (h := h) (T := T) (M.next j hj) H).mono ?_)
  clear H
  rintro _ _ ⟨rfl, H⟩
  iterate 4 refine RW.v ?_
  refine RW.mk H (.row ⟨[.int .i64 0, .int .i64 0], 28, false⟩) ?_
  clear H; intro _ b30 _ H
  refine RW.mk H (.row ⟨[.int .i64 0, .int .i64 0], 28, false⟩) ?_
  clear H; intro _ b31 _ H
  refine RW.st H 1 [.int .i64 2, .int .i64 ((es.getD j me0).2.2)] [.int .i64 2, .int .i64 ((es.getD j me0).2.2)] ?_
  clear H; intro _ _ H; dsimp only [setL, delL] at H
  refine RW.st H 0 [.int .i64 ((c (j + 1)).1), .int .i64 ((c (j + 1)).2)] [.int .i64 ((c (j + 1)).1), .int .i64 ((c (j + 1)).2)] ?_
  clear H; intro _ _ H; dsimp only [setL, delL] at H
  refine RW.v ?_
  refine RW.nil ?_
  replace H := (H.del 0)
  dsimp only [setL, delL] at H
  refine W.rg [(1, pp b7), (3, pp b14), (4, .int .i64 0), (5, pp b27), (6, pp b30), (14, .func (.func 72) #[] #[pp b15, pp b16]), (15, .int .i64 0), (16, .agg #[.int .i64 ((c j).1), .int .i64 ((c j).2)])] fun TA => ?_
  refine W.seq (W.region ?_)
  refine RW.ld H 12 4 ?_
  refine RW.ld H 0 2 ?_
  refine RW.cl ?_
  refine ((cons_y (h := h) (T := T) (M.ent j hj) H).mono ?_)
  clear H
  rintro _ _ ⟨rfl, H⟩
  iterate 4 refine RW.v ?_
  refine RW.mk H (.row ⟨[.int .i64 0, .int .i64 0], 28, false⟩) ?_
  clear H; intro _ b32 _ H
  refine RW.mk H (.row ⟨[.int .i64 0, .int .i64 0], 28, false⟩) ?_
  clear H; intro _ b33 _ H
  refine RW.st H 1 [.int .i64 ((es.getD j me0).1.1), .int .i64 ((es.getD j me0).1.2)] [.int .i64 ((es.getD j me0).1.1), .int .i64 ((es.getD j me0).1.2)] ?_
  clear H; intro _ _ H; dsimp only [setL, delL] at H
  refine RW.st H 0 [.int .i64 ((es.getD j me0).2.1.1), .int .i64 ((es.getD j me0).2.1.2)] [.int .i64 ((es.getD j me0).2.1.1), .int .i64 ((es.getD j me0).2.1.2)] ?_
  clear H; intro _ _ H; dsimp only [setL, delL] at H
  refine RW.v ?_
  refine RW.nil ?_
  refine W.rg [(1, pp b7), (3, pp b14), (4, .int .i64 0), (5, pp b27), (6, pp b30), (9, pp b32), (10, pp b33), (11, .bool true), (14, .func (.func 72) #[] #[pp b15, pp b16]), (15, .int .i64 0), (16, .agg #[.int .i64 ((c j).1), .int .i64 ((c j).2)])] fun TA => ?_
  refine W.seq (W.region ?_)
  iterate 2 refine RW.v ?_
  refine RW.ldL H 14 4 (by rfl) (by kernel_rfl) rfl rfl rfl rfl rfl (by kernel_rfl) ?_
  refine RW.ldL H 3 2 (by rfl) (by kernel_rfl) rfl rfl rfl rfl rfl (by kernel_rfl) ?_
  refine RW.cl (hw := by rfl) ?_
  refine ((isMap_o (h := h) (T := T) (M.next j hj) rfl H).mono ?_)
  clear H
  rintro _ _ ⟨rfl, H⟩
  refine RW.val (by rfl) (by kernel_rfl) rfl (by kernel_rfl) ?_
  refine RW.v ?_
  refine RW.nil ?_
  replace H := (H.del 3)
  dsimp only [setL, delL] at H
  refine W.c1 ?_
  refine W.seq (W.region ?_)
  refine RW.ld H 9 1 ?_
  refine RW.v ?_
  refine RW.ld H 1 2 ?_
  refine RW.ld H 0 2 ?_
  refine RW.val (v := .agg #[.int .i64 ((es.getD j me0).1.1), .int .i64 ((es.getD j me0).1.2), .int .i64 ((es.getD j me0).2.1.1), .int .i64 ((es.getD j me0).2.1.2)]) (by kernel_rfl) (by kernel_rfl) (by kernel_rfl) (by kernel_rfl) ?_
  refine RW.ld H 2 2 ?_
  refine RW.val (v := .agg #[.int .i64 ((es.getD j me0).1.1), .int .i64 ((es.getD j me0).1.2), .int .i64 ((es.getD j me0).2.1.1), .int .i64 ((es.getD j me0).2.1.2), .int .i64 2, .int .i64 ((es.getD j me0).2.2)]) (by kernel_rfl) (by kernel_rfl) (by kernel_rfl) (by kernel_rfl) ?_
  refine RW.yieldL H 10 rfl hl12 (by kernel_rfl) (by kernel_rfl) rfl rfl rfl rfl rfl (by kernel_rfl) ?_
  refine W.rg [(6, pp b3), (7, pp b4), (8, pp b5), (9, pp b6), (14, .func (.func 79) #[] #[pp b7, pp b8]), (15, .int .i64 0), (16, .agg #[.int .i64 ((es.getD j me0).1.1), .int .i64 ((es.getD j me0).1.2), .int .i64 ((es.getD j me0).2.1.1), .int .i64 ((es.getD j me0).2.1.2), .int .i64 2, .int .i64 ((es.getD j me0).2.2)])] fun TA => ?_
  refine W.seq (W.region ?_)
  refine RW.v ?_
  refine RW.nil ?_
  refine W.rg [(6, pp b3), (7, pp b4), (8, pp b5), (9, pp b6), (10, .int .i64 0), (14, .func (.func 79) #[] #[pp b7, pp b8]), (15, .int .i64 0), (16, .agg #[.int .i64 ((es.getD j me0).1.1), .int .i64 ((es.getD j me0).1.2), .int .i64 ((es.getD j me0).2.1.1), .int .i64 ((es.getD j me0).2.1.2), .int .i64 2, .int .i64 ((es.getD j me0).2.2)])] fun TA => ?_
  refine W.region ?_
  refine RW.mk H (.row ⟨[.int .i64 0, .int .i64 0, .int .i64 0, .int .i64 0, .int .i64 0, .int .i64 0], 73, false⟩) ?_
  clear H; intro _ b34 _ H
  refine RW.st H 0 [.int .i64 ((es.getD j me0).1.1), .int .i64 ((es.getD j me0).1.2), .int .i64 ((es.getD j me0).2.1.1), .int .i64 ((es.getD j me0).2.1.2), .int .i64 2, .int .i64 ((es.getD j me0).2.2)] [.int .i64 ((es.getD j me0).1.1), .int .i64 ((es.getD j me0).1.2), .int .i64 ((es.getD j me0).2.1.1), .int .i64 ((es.getD j me0).2.1.2), .int .i64 2, .int .i64 ((es.getD j me0).2.2)] ?_
  clear H; intro _ _ H; dsimp only [setL, delL] at H
  refine RW.nil ?_
  refine ⟨rfl, _, _, _, 11, H, rfl, ?_⟩
  clear H; intro _ lq35 hq36 H
  dsimp only [setL, delL] at H
  refine W.rg [(6, pp b3), (7, pp b4), (8, pp b5), (9, pp b6), (10, .int .i64 0), (11, pp b34), (14, .func (.func 79) #[] #[pp b7, pp b8]), (15, .int .i64 0), (16, .agg #[.int .i64 ((es.getD j me0).1.1), .int .i64 ((es.getD j me0).1.2), .int .i64 ((es.getD j me0).2.1.1), .int .i64 ((es.getD j me0).2.1.2), .int .i64 2, .int .i64 ((es.getD j me0).2.2)])] fun TA => ?_
  refine W.block ?_
  refine W.seq ?_
  refine W.seq (W.region ?_)
  iterate 2 refine RW.v ?_
  refine RW.nil ?_
  refine W.c0 ?_
  refine W.skip ?_
  refine W.seq (W.region ?_)
  iterate 2 refine RW.v ?_
  refine RW.ld H 0 2 ?_
  refine RW.ld H 18 2 ?_
  refine RW.vop (v := .bool (((es.getD j me0).1.1) == ev.1 && ((es.getD j me0).1.2) == ev.2)) (by kernel_rfl) (by kernel_rfl) (vop_eqS (b := (((es.getD j me0).1.1) == ev.1 && ((es.getD j me0).1.2) == ev.2)) (r := (((es.getD j me0).1.1) == ev.1 && ((es.getD j me0).1.2) == ev.2)) rfl (.inl ⟨rfl, rfl⟩) rfl rfl rfl rfl (by kernel_rfl) (fun w => eqWd _ _ _ _ w)) (by kernel_rfl) ?_
  refine RW.v ?_
  refine RW.both _ _ rfl rfl rfl (fun hc37 => ?_) (fun hc37 => ?_)
  ·have hc37b := hc37
   refine RW.ldL H 17 1 (by rfl) (by kernel_rfl) rfl rfl rfl rfl rfl (by kernel_rfl) ?_
   refine RW.val (by rfl) (by kernel_rfl) rfl (by kernel_rfl) ?_
   refine RW.val (by rfl) (by kernel_rfl) rfl (by kernel_rfl) ?_
   refine RW.ldL H 0 2 (by rfl) (by kernel_rfl) rfl rfl rfl rfl rfl (by kernel_rfl) ?_
   refine RW.cl (hw := by rfl) ?_
   refine WC.enter (fn := Tryd.f39) Tryd.func39 rfl ?_
   refine W.rg [(0, .agg #[.int .i64 ((es.getD j me0).2.1.1), .int .i64 ((es.getD j me0).2.1.2)])] fun TA => ?_
   refine W.seq (W.region ?_)
   refine RW.mk H (.row ⟨[.int .i64 ((es.getD j me0).2.1.1), .int .i64 ((es.getD j me0).2.1.2)], 28, false⟩) ?_
   clear H; intro _ b38 _ H
   refine RW.v ?_
   refine RW.nil ?_
   replace H := (H.del 0)
   dsimp only [setL, delL] at H
   refine W.rg [] fun TA => ?_
   refine W.seq (W.region ?_)
   refine RW.v ?_
   refine RW.nil ?_
   refine W.ret ?_
   refine endG (by rfl) (by exact resL_tmp rfl) ?_
   refine RW.v ?_
   refine RW.nil ?_
   refine W.c1 ?_
   refine W.seq (W.region ?_)
   refine RW.ld H 0 6 ?_
   refine RW.st H 16 [.int .i64 ((es.getD j me0).1.1), .int .i64 ((es.getD j me0).1.2), .int .i64 ((es.getD j me0).2.1.1), .int .i64 ((es.getD j me0).2.1.2), .int .i64 2, .int .i64 ((es.getD j me0).2.2)] [.int .i64 ((es.getD j me0).1.1), .int .i64 ((es.getD j me0).1.2), .int .i64 ((es.getD j me0).2.1.1), .int .i64 ((es.getD j me0).2.1.2), .int .i64 2, .int .i64 ((es.getD j me0).2.2)] ?_
   clear H; intro _ _ H; dsimp only [setL, delL] at H
   refine RW.st H 15 [.bool true] [.bool true] ?_
   clear H; intro _ _ H; dsimp only [setL, delL] at H
   refine RW.nil ?_
   replace H := (H.del 0)
   dsimp only [setL, delL] at H
   refine W.ret ?_
   refine blkQ_ret ?_
   refine ⟨_, _, _, 10, false, .done, (some .ret), H, rfl, rfl, ?_⟩
   clear H; intro _ lr39 _ hr40 H
   dsimp only [setL, delL] at H
   refine RW.v ?_
   refine RW.nil ?_
   replace H := (((H.del 2).del 1).del 0)
   dsimp only [setL, delL] at H
   refine W.c1 ?_
   refine W.ret ?_
   refine blkQ_ret ?_
   refine ⟨_, _, _, 2, false, .done, (some .ret), H, rfl, rfl, ?_⟩
   clear H; intro _ lr41 _ hr42 H
   dsimp only [setL, delL] at H
   refine RW.v ?_
   refine RW.nil ?_
   refine W.c1 ?_
   refine W.ret ?_
   refine seqQ_ret ?_
   refine blkQ_ret ?_
   refine seqQ_ret ?_
   refine rndQ_ret ?_
   refine blkQ_ret ?_
   refine endG (by rfl) (by exact rfl) ?_
   refine ⟨_, _, _, 2, _, _, _, _, H, rfl, hr42, rfl, rfl, ?_⟩
   clear H; intro _ H
   dsimp only [setL, delL] at H
   refine blkQ_ret ?_
   refine endMark H 2 rfl fun _ H => ?_
   dsimp only [setL, delL] at H
   refine endGD0 (by rfl) (by exact rfl) ?_
   refine ⟨_, _, _, 5, _, _, _, _, H, rfl, hr40, rfl, rfl, ?_⟩
   clear H; intro _ H
   dsimp only [setL, delL] at H
   refine blkQ_ret ?_
   refine seqQ_ret ?_
   refine endMark H 5 rfl fun _ H => ?_
   dsimp only [setL, delL] at H
   refine endGD0 (by rfl) (by exact resL_cell rfl (H.get 8 rfl) (by rw [uT_eq]; exact Tryd.underlying73) (by kernel_rfl) rfl rfl (by exact resL_cell rfl (H.get 7 rfl) (by rw [uT_eq]; exact Tryd.underlying4) (by kernel_rfl) rfl rfl rfl)) ?_
   exact ⟨ownV_hit (by omega) hN (by unfold pA; rw [hc37b] <;> first | rfl | simp only [Bool.not_true, Bool.and_false]), (((((((((((H.del 10).del 9).del 8).del 7).del 6).del 5).del 4).del 3).del 2).del 1).del 0)⟩
  ·have hc37b := hc37
   refine RW.skip (by rfl) (by kernel_rfl) ?_
   refine RW.skip (by rfl) (by kernel_rfl) ?_
   refine RW.skip (by rfl) (by kernel_rfl) ?_
   refine RW.skip (by rfl) (by kernel_rfl) ?_
   refine RW.skip (by rfl) (by kernel_rfl) ?_
   refine RW.v ?_
   refine RW.nil ?_
   refine W.c0 ?_
   refine W.skip ?_
   refine blkQ_normal ?_
   refine ⟨_, _, _, 11, true, .ready, none, H, rfl, rfl, ?_⟩
   clear H; intro _ lr43 _ hr44 H
   dsimp only [setL, delL] at H
   refine RW.v ?_
   refine RW.nil ?_
   replace H := ((((H.del 3).del 2).del 1).del 0)
   dsimp only [setL, delL] at H
   refine W.c0 ?_
   refine W.skip ?_
   refine blkQ_normal ?_
   refine ⟨_, _, _, 2, true, .ready, none, H, rfl, rfl, ?_⟩
   clear H; intro _ lr45 _ hr46 H
   dsimp only [setL, delL] at H
   refine RW.v ?_
   refine RW.nil ?_
   refine W.c0 ?_
   refine W.skip ?_
   refine W.region ?_
   refine RW.ld H 0 2 ?_
   refine RW.st H 1 [.int .i64 d.1, .int .i64 d.2] [.int .i64 d.1, .int .i64 d.2] ?_
   clear H; intro _ _ H; dsimp only [setL, delL] at H
   refine RW.nil ?_
   replace H := (H.del 0)
   dsimp only [setL, delL] at H
   refine blkQ_normal ?_
   refine W.rg [(0, .func (.yield b18) #[] #[]), (1, pp b15), (5, pp b23), (7, .int .i64 0), (18, .int .i64 ((j : Nat) : Int))] fun TA => ?_
   refine W.region ?_
   refine RW.valE (v' := .int .i64 (((j : Nat) : Int) + 1)) (by kernel_rfl) (by kernel_rfl) rfl (congrArg (Value.int .i64) (wrap_in (by omega) (by omega))) (by kernel_rfl) ?_
   refine RW.v ?_
   refine RW.nil ?_
   rw [show lr45 = lp19 from hr46.trans hl20.symm] at H
   rw [show lr43 = lp11 from hr44.trans hl12.symm] at H
   rw [hd] at H
   exact ⟨rfl, mm - 1, by omega, j + 1, (by omega), (by omega), (take_next (by omega) hN (by unfold pA; rw [hc37b] <;> first | rfl | simp only [Bool.not_true, Bool.and_false])), H, rfl, rfl, rfl, rfl, rfl⟩
set_option maxHeartbeats 16000000 in
theorem ownB_wc {w ev : Wd} {c : Nat → Wd} {es : List Me} (M : MapC m w c es) (hn : es.length < 65535) (hG : G65 ≤ σ0.next) (ha : σ0.abs = heapAbs h m) : WC G65 Tryd.prog 38 #[.agg #[.pointer (some ⟨h, 0, none⟩), .pointer (some ⟨T, 0, none⟩), .int .i64 1, .int .i64 66], wdV w, wdV ev, .func (.func 64) #[] #[]] σ0 fun v σ' => v = ownV (pB ev) es ∧ Lies G65 (heapAbs h m) σ0.get σ' [] := by
 have H := Lies.start hG ha
 generalize σ0.get = F at H ⊢
 refine WC.enterD (fn := Tryd.f38) Tryd.func38 rfl ?_
 refine W.rg [(0, .agg #[pp h, pp T, .int .i64 1, .int .i64 66]), (1, .agg #[.int .i64 w.1, .int .i64 w.2]), (2, .agg #[.int .i64 ev.1, .int .i64 ev.2]), (3, .func (.func 64) #[] #[])] fun TA => ?_
 refine W.seq (W.region ?_)
 refine RW.mk H (.row ⟨[pt h, pt T, .int .i64 1, .int .i64 66], 65, false⟩) ?_
 clear H; intro _ b1 _ H
 refine RW.mk H (.row ⟨[.int .i64 w.1, .int .i64 w.2], 28, false⟩) ?_
 clear H; intro _ b2 _ H
 refine RW.mk H (.row ⟨[.int .i64 ev.1, .int .i64 ev.2], 28, false⟩) ?_
 clear H; intro _ b3 _ H
 refine RW.mk H (.row ⟨[.func (.func 64) #[] #[]], 69, false⟩) ?_
 clear H; intro _ b4 _ H
 refine RW.mk H (.row ⟨[.int .i64 0, .int .i64 0, .int .i64 0, .int .i64 0, .int .i64 0, .int .i64 0], 73, false⟩) ?_
 clear H; intro _ b5 _ H
 refine RW.mk H (.row ⟨[.bool false], 4, false⟩) ?_
 clear H; intro _ b6 _ H
 refine RW.nil ?_
 refine W.rg [(4, pp b1), (5, pp b2), (6, pp b3), (7, pp b4), (8, pp b5), (9, pp b6)] fun TA => ?_
 refine W.seq ?_
 refine W.seq (W.region ?_)
 refine RW.ld H 5 4 ?_
 refine RW.ld H 4 2 ?_
 refine RW.cl ?_
 refine WC.enter (fn := Tryd.f65) Tryd.func65 rfl ?_
 refine W.rg [(0, .agg #[pp h, pp T, .int .i64 1, .int .i64 66]), (1, .agg #[.int .i64 w.1, .int .i64 w.2])] fun TA => ?_
 refine W.seq (W.region ?_)
 refine RW.mk H (.row ⟨[pt h, pt T, .int .i64 1, .int .i64 66], 65, false⟩) ?_
 clear H; intro _ b7 _ H
 refine RW.mk H (.row ⟨[.int .i64 w.1, .int .i64 w.2], 28, false⟩) ?_
 clear H; intro _ b8 _ H
 refine RW.v ?_
 refine RW.nil ?_
 refine W.rg [(2, pp b7), (3, pp b8)] fun TA => ?_
 refine W.seq (W.region ?_)
 refine RW.val (v := .func (.func 79) #[] #[.pointer (some ⟨b7, 0, none⟩), .pointer (some ⟨b8, 0, none⟩)]) (by kernel_rfl) (by kernel_rfl) (by kernel_rfl) (by kernel_rfl) ?_
 refine RW.v ?_
 refine RW.nil ?_
 refine W.ret ?_
 refine endG (by rfl) (by exact resL_tmp rfl) ?_
 refine RW.nil ?_
 replace H := ((H.del 7).del 6)
 dsimp only [setL, delL] at H
 refine W.rg [(6, pp b3), (7, pp b4), (8, pp b5), (9, pp b6), (14, .func (.func 79) #[] #[pp b7, pp b8])] fun TA => ?_
 refine W.block ?_
 refine W.rst [(6, .pointer (some ⟨b3, 0, none⟩)), (7, .pointer (some ⟨b4, 0, none⟩)), (8, .pointer (some ⟨b5, 0, none⟩)), (9, .pointer (some ⟨b6, 0, none⟩)), (14, .func (.func 79) #[] #[.pointer (some ⟨b7, 0, none⟩), .pointer (some ⟨b8, 0, none⟩)])] ⟨rfl, rfl, rfl, rfl, rfl, trivial⟩ fun TL13 => ?_
 refine W.rangeL H rfl (fun _ h => nomatch h) (fun _ h => nomatch h) (by kernel_rfl) fun _ d9 b10 lp11 hl12 H => ?_
 refine WC.enterD (fn := Tryd.f79) Tryd.func79 rfl ?_
 refine W.rg [(0, .func (.yield b10) #[] #[]), (1, pp b7), (2, pp b8)] fun TA => ?_
 refine W.seq (W.region ?_)
 refine RW.mk H (.row ⟨[.func (.yield b10) #[] #[]], 135, false⟩) ?_
 clear H; intro _ b14 _ H
 refine RW.nil ?_
 refine W.rg [(1, pp b7), (2, pp b8), (3, pp b14)] fun TA => ?_
 refine W.seq (W.region ?_)
 refine RW.ld H 4 4 ?_
 refine RW.ld H 3 2 ?_
 refine RW.cl ?_
 refine WC.enter (fn := Tryd.f53) Tryd.func53 rfl ?_
 refine W.rg [(0, .agg #[pp h, pp T, .int .i64 1, .int .i64 66]), (1, .agg #[.int .i64 w.1, .int .i64 w.2])] fun TA => ?_
 refine W.seq (W.region ?_)
 refine RW.mk H (.row ⟨[pt h, pt T, .int .i64 1, .int .i64 66], 65, false⟩) ?_
 clear H; intro _ b15 _ H
 refine RW.mk H (.row ⟨[.int .i64 w.1, .int .i64 w.2], 28, false⟩) ?_
 clear H; intro _ b16 _ H
 refine RW.v ?_
 refine RW.nil ?_
 refine W.rg [(2, pp b15), (3, pp b16)] fun TA => ?_
 refine W.seq (W.region ?_)
 refine RW.val (v := .func (.func 72) #[] #[.pointer (some ⟨b15, 0, none⟩), .pointer (some ⟨b16, 0, none⟩)]) (by kernel_rfl) (by kernel_rfl) (by kernel_rfl) (by kernel_rfl) ?_
 refine RW.v ?_
 refine RW.nil ?_
 refine W.ret ?_
 refine endG (by rfl) (by exact resL_tmp rfl) ?_
 refine RW.nil ?_
 refine W.rg [(1, pp b7), (3, pp b14), (14, .func (.func 72) #[] #[pp b15, pp b16])] fun TA => ?_
 refine W.block ?_
 refine W.rst [(1, .pointer (some ⟨b7, 0, none⟩)), (3, .pointer (some ⟨b14, 0, none⟩)), (14, .func (.func 72) #[] #[.pointer (some ⟨b15, 0, none⟩), .pointer (some ⟨b16, 0, none⟩)])] ⟨rfl, rfl, rfl, trivial⟩ fun TL21 => ?_
 refine W.rangeL H rfl (fun _ h => nomatch h) (fun _ h => nomatch h) (by kernel_rfl) fun _ d17 b18 lp19 hl20 H => ?_
 refine WC.enter (fn := Tryd.f72) Tryd.func72 rfl ?_
 refine W.rg [(0, .func (.yield b18) #[] #[]), (1, pp b15), (2, pp b16)] fun TA => ?_
 refine W.seq (W.region ?_)
 refine RW.ld H 3 4 ?_
 refine RW.ld H 2 2 ?_
 refine RW.cl ?_
 refine ((cons_y (h := h) (T := T) M.root H).mono ?_)
 clear H
 rintro _ _ ⟨rfl, H⟩
 iterate 4 refine RW.v ?_
 refine RW.mk H (.row ⟨[.int .i64 0, .int .i64 0], 28, false⟩) ?_
 clear H; intro _ b22 _ H
 refine RW.mk H (.row ⟨[.int .i64 0, .int .i64 0], 28, false⟩) ?_
 clear H; intro _ b23 _ H
 refine RW.st H 1 [.int .i64 1, .int .i64 66] [.int .i64 1, .int .i64 66] ?_
 clear H; intro _ _ H; dsimp only [setL, delL] at H
 refine RW.st H 0 [.int .i64 ((c 0).1), .int .i64 ((c 0).2)] [.int .i64 ((c 0).1), .int .i64 ((c 0).2)] ?_
 clear H; intro _ _ H; dsimp only [setL, delL] at H
 refine RW.v ?_
 refine RW.nil ?_
 replace H := (H.del 1)
 dsimp only [setL, delL] at H
 refine W.rg [(0, .func (.yield b18) #[] #[]), (1, pp b15), (5, pp b23)] fun TA => ?_
 refine W.seq (W.region ?_)
 refine RW.v ?_
 refine RW.nil ?_
 refine W.rg [(0, .func (.yield b18) #[] #[]), (1, pp b15), (5, pp b23), (7, .int .i64 0)] fun TA => ?_
 refine W.seq (W.region ?_)
 refine RW.v ?_
 refine RW.nil ?_
 refine W.rg [(0, .func (.yield b18) #[] #[]), (1, pp b15), (5, pp b23), (7, .int .i64 0), (18, .int .i64 0)] fun TA => ?_
 refine W.block ?_
 refine W.loop (fun mm ta σ => ∃ (j : Nat), (mm + j = es.length) ∧ (j ≤ es.length) ∧ (∀ e ∈ es.take j, (pB ev) e = false) ∧ Lies G65 (heapAbs h m) F σ [.at_ b23 (.row ⟨[.int .i64 ((c j).1), .int .i64 ((c j).2)], 28, false⟩), .at_ b18 lp19, .at_ d17 (.defs true), .at_ b16 (.row ⟨[.int .i64 w.1, .int .i64 w.2], 28, false⟩), .at_ b15 (.row ⟨[.pointer (some ⟨h, 0, none⟩), .pointer (some ⟨T, 0, none⟩), .int .i64 1, .int .i64 66], 65, false⟩), .at_ b14 (.row ⟨[.func (.yield b10) #[] #[]], 135, false⟩), .at_ b10 lp11, .at_ d9 (.defs true), .at_ b8 (.row ⟨[.int .i64 w.1, .int .i64 w.2], 28, false⟩), .at_ b7 (.row ⟨[.pointer (some ⟨h, 0, none⟩), .pointer (some ⟨T, 0, none⟩), .int .i64 1, .int .i64 66], 65, false⟩), .at_ b6 (.row ⟨[.bool false], 4, false⟩), .at_ b5 (.row ⟨[.int .i64 0, .int .i64 0, .int .i64 0, .int .i64 0, .int .i64 0, .int .i64 0], 73, false⟩), .at_ b4 (.row ⟨[.func (.func 64) #[] #[]], 69, false⟩), .at_ b3 (.row ⟨[.int .i64 ev.1, .int .i64 ev.2], 28, false⟩)] ∧ ta 0 = .func (.yield b18) #[] #[] ∧ ta 1 = .pointer (some ⟨b15, 0, none⟩) ∧ ta 5 = .pointer (some ⟨b23, 0, none⟩) ∧ ta 7 = .int .i64 0 ∧ ta 18 = .int .i64 ((j : Nat) : Int)) es.length ?_ ?_
 ·exact ⟨0, (by omega), (by omega), (fun e he => by simp at he), H, rfl, rfl, rfl, rfl, rfl⟩
 clear H
 rintro mm ta _ ⟨j, hm, hjl, hN, H, e0, e1, e5, e7, e18⟩
 refine W.rst [(0, .func (.yield b18) #[] #[]), (1, .pointer (some ⟨b15, 0, none⟩)), (5, .pointer (some ⟨b23, 0, none⟩)), (7, .int .i64 0), (18, .int .i64 ((j : Nat) : Int))] ⟨e0, e1, e5, e7, e18, trivial⟩ fun TA => ?_
 clear e0 e1 e5 e7 e18
 refine W.seq (W.region ?_)
 refine RW.valE (v' := .bool true) (by kernel_rfl) (by kernel_rfl) rfl (congrArg Value.bool (decide_eq_true (by omega))) (by kernel_rfl) ?_
 refine RW.nil ?_
 refine W.rg [(0, .func (.yield b18) #[] #[]), (1, pp b15), (5, pp b23), (7, .int .i64 0), (18, .int .i64 ((j : Nat) : Int)), (19, .bool true)] fun TA => ?_
 refine W.seq ?_
 refine W.c1 ?_
 refine W.skip ?_
 refine W.seq ?_
 refine W.block ?_
 refine W.seq (W.region ?_)
 refine RW.ld H 4 4 ?_
 refine RW.ld H 0 2 ?_
 refine RW.cl ?_
 refine ((cons_c (T := T) M hjl H).mono ?_)
 clear H
 rintro _ _ ⟨a, d, is, rfl, hs1, hs0, H⟩
 iterate 4 refine RW.v ?_
 refine RW.mk H (.row ⟨[.int .i64 0, .int .i64 0], 28, false⟩) ?_
 clear H; intro _ b24 _ H
 refine RW.mk H (.row ⟨[.int .i64 0, .int .i64 0], 28, false⟩) ?_
 clear H; intro _ b25 _ H
 refine RW.st H 1 [.int .i64 a.1, .int .i64 a.2] [.int .i64 a.1, .int .i64 a.2] ?_
 clear H; intro _ _ H; dsimp only [setL, delL] at H
 refine RW.st H 0 [.int .i64 d.1, .int .i64 d.2] [.int .i64 d.1, .int .i64 d.2] ?_
 clear H; intro _ _ H; dsimp only [setL, delL] at H
 refine RW.v ?_
 refine RW.nil ?_
 replace H := (H.del 1)
 dsimp only [setL, delL] at H
 refine W.rg [(0, .func (.yield b18) #[] #[]), (1, pp b15), (5, pp b23), (7, .int .i64 0), (9, pp b25), (10, .bool is), (18, .int .i64 ((j : Nat) : Int))] fun TA => ?_
 refine W.seq ?_
 refine W.seq (W.region ?_)
 iterate 2 refine RW.v ?_
 refine RW.nil ?_
 refine W.rg [(0, .func (.yield b18) #[] #[]), (1, pp b15), (5, pp b23), (7, .int .i64 0), (9, pp b25), (18, .int .i64 ((j : Nat) : Int)), (28, .bool (!is))] fun TA => ?_
 refine W.cond rfl (fun hc26 => ?_) (fun hc26 => ?_)
 ·have hc26b := hc26
  have hjn : j = es.length := hs0 (by simpa using hc26b)
  refine W.ret ?_
  refine seqQ_ret ?_
  refine blkQ_ret ?_
  refine seqQ_ret ?_
  refine rndQ_ret ?_
  refine blkQ_ret ?_
  refine endG (by rfl) (by exact rfl) ?_
  refine ⟨_, _, _, 2, _, _, _, _, H, rfl, hl20, rfl, rfl, ?_⟩
  clear H; intro _ H
  dsimp only [setL, delL] at H
  refine blkQ_normal ?_
  refine endMark H 2 rfl fun _ H => ?_
  dsimp only [setL, delL] at H
  refine endGD0 (by rfl) (by exact rfl) ?_
  refine ⟨_, _, _, 5, _, _, _, _, H, rfl, hl12, rfl, rfl, ?_⟩
  clear H; intro _ H
  dsimp only [setL, delL] at H
  refine blkQ_normal ?_
  refine W.seq (W.region ?_)
  refine RW.val (v := .agg #[.int .i64 0, .int .i64 0, .int .i64 0, .int .i64 0, .int .i64 0, .int .i64 0]) (by kernel_rfl) (by kernel_rfl) (by kernel_rfl) (by kernel_rfl) ?_
  refine RW.st H 9 [.int .i64 0, .int .i64 0, .int .i64 0, .int .i64 0, .int .i64 0, .int .i64 0] [.int .i64 0, .int .i64 0, .int .i64 0, .int .i64 0, .int .i64 0, .int .i64 0] ?_
  clear H; intro _ _ H; dsimp only [setL, delL] at H
  refine RW.st H 8 [.bool false] [.bool false] ?_
  clear H; intro _ _ H; dsimp only [setL, delL] at H
  refine RW.nil ?_
  replace H := (((((((((H.del 11).del 10).del 7).del 6).del 4).del 3).del 2).del 1).del 0)
  dsimp only [setL, delL] at H
  refine W.ret ?_
  refine endMark H 0 rfl fun _ H => ?_
  dsimp only [setL, delL] at H
  refine endGD0 (by rfl) (by exact resL_cell rfl (H.get 1 rfl) (by rw [uT_eq]; exact Tryd.underlying73) (by kernel_rfl) rfl rfl (by exact resL_cell rfl (H.get 0 rfl) (by rw [uT_eq]; exact Tryd.underlying4) (by kernel_rfl) rfl rfl rfl)) ?_
  exact ⟨ownV_none hN (by omega), ((H.del 1).del 0)⟩
 ·have hc26b := hc26
  obtain ⟨hj, ha, hd⟩ := hs1 (by simpa using hc26b)
  refine W.skip ?_
  refine W.seq ?_
  refine W.seq (W.region ?_)
  refine RW.ld H 5 4 ?_
  refine RW.ld H 1 2 ?_
  refine RW.cl ?_
  refine ((isMap_o (h := h) (T := T) (M.next j hj) rfl H).mono ?_)
  clear H
  rintro _ _ ⟨rfl, H⟩
  refine RW.nil ?_
  refine W.c0 ?_
  refine W.skip ?_
  refine W.seq ?_
  refine W.seq (W.region ?_)
  iterate 2 refine RW.v ?_
  refine RW.ld H 1 2 ?_
  refine RW.yieldL H 2 rfl hl20 (by kernel_rfl) (by kernel_rfl) rfl rfl rfl rfl rfl (by kernel_rfl) ?_
  refine W.rg [(1, pp b7), (3, pp b14), (14, .func (.func 72) #[] #[pp b15, pp b16]), (15, .int .i64 0), (16, .agg #[.int .i64 ((c j).1), .int .i64 ((c j).2)])] fun TA => ?_
  refine W.seq (W.region ?_)
  refine RW.v ?_
  refine RW.nil ?_
  refine W.rg [(1, pp b7), (3, pp b14), (4, .int .i64 0), (14, .func (.func 72) #[] #[pp b15, pp b16]), (15, .int .i64 0), (16, .agg #[.int .i64 ((c j).1), .int .i64 ((c j).2)])] fun TA => ?_
  refine W.region ?_
  refine RW.mk H (.row ⟨[.int .i64 0, .int .i64 0], 28, false⟩) ?_
  clear H; intro _ b27 _ H
  refine RW.st H 0 [.int .i64 ((c j).1), .int .i64 ((c j).2)] [.int .i64 ((c j).1), .int .i64 ((c j).2)] ?_
  clear H; intro _ _ H; dsimp only [setL, delL] at H
  refine RW.nil ?_
  refine ⟨rfl, _, _, _, 3, H, rfl, ?_⟩
  clear H; intro _ lq28 hq29 H
  dsimp only [setL, delL] at H
  refine W.rg [(1, pp b7), (3, pp b14), (4, .int .i64 0), (5, pp b27), (14, .func (.func 72) #[] #[pp b15, pp b16]), (15, .int .i64 0), (16, .agg #[.int .i64 ((c j).1), .int .i64 ((c j).2)])] fun TA => ?_
  refine W.block ?_
  refine W.seq (W.region ?_)
  refine RW.ld H 11 4 ?_
  refine RW.ld H 0 2 ?_
  refine RW.cl ?_
  refine ((cons_y (h := h) (T := T) (M.next j hj) H).mono ?_)
  clear H
  rintro _ _ ⟨rfl, H⟩
  iterate 4 refine RW.v ?_
  refine RW.mk H (.row ⟨[.int .i64 0, .int .i64 0], 28, false⟩) ?_
  clear H; intro _ b30 _ H
  refine RW.mk H (.row ⟨[.int .i64 0, .int .i64 0], 28, false⟩) ?_
  clear H; intro _ b31 _ H
  refine RW.st H 1 [.int .i64 2, .int .i64 ((es.getD j me0).2.2)] [.int .i64 2, .int .i64 ((es.getD j me0).2.2)] ?_
  clear H; intro _ _ H; dsimp only [setL, delL] at H
  refine RW.st H 0 [.int .i64 ((c (j + 1)).1), .int .i64 ((c (j + 1)).2)] [.int .i64 ((c (j + 1)).1), .int .i64 ((c (j + 1)).2)] ?_
  clear H; intro _ _ H; dsimp only [setL, delL] at H
  refine RW.v ?_
  refine RW.nil ?_
  replace H := (H.del 0)
  dsimp only [setL, delL] at H
  refine W.rg [(1, pp b7), (3, pp b14), (4, .int .i64 0), (5, pp b27), (6, pp b30), (14, .func (.func 72) #[] #[pp b15, pp b16]), (15, .int .i64 0), (16, .agg #[.int .i64 ((c j).1), .int .i64 ((c j).2)])] fun TA => ?_
  refine W.seq (W.region ?_)
  refine RW.ld H 12 4 ?_
  refine RW.ld H 0 2 ?_
  refine RW.cl ?_
  refine ((cons_y (h := h) (T := T) (M.ent j hj) H).mono ?_)
  clear H
  rintro _ _ ⟨rfl, H⟩
  iterate 4 refine RW.v ?_
  refine RW.mk H (.row ⟨[.int .i64 0, .int .i64 0], 28, false⟩) ?_
  clear H; intro _ b32 _ H
  refine RW.mk H (.row ⟨[.int .i64 0, .int .i64 0], 28, false⟩) ?_
  clear H; intro _ b33 _ H
  refine RW.st H 1 [.int .i64 ((es.getD j me0).1.1), .int .i64 ((es.getD j me0).1.2)] [.int .i64 ((es.getD j me0).1.1), .int .i64 ((es.getD j me0).1.2)] ?_
  clear H; intro _ _ H; dsimp only [setL, delL] at H
  refine RW.st H 0 [.int .i64 ((es.getD j me0).2.1.1), .int .i64 ((es.getD j me0).2.1.2)] [.int .i64 ((es.getD j me0).2.1.1), .int .i64 ((es.getD j me0).2.1.2)] ?_
  clear H; intro _ _ H; dsimp only [setL, delL] at H
  refine RW.v ?_
  refine RW.nil ?_
  refine W.rg [(1, pp b7), (3, pp b14), (4, .int .i64 0), (5, pp b27), (6, pp b30), (9, pp b32), (10, pp b33), (11, .bool true), (14, .func (.func 72) #[] #[pp b15, pp b16]), (15, .int .i64 0), (16, .agg #[.int .i64 ((c j).1), .int .i64 ((c j).2)])] fun TA => ?_
  refine W.seq (W.region ?_)
  iterate 2 refine RW.v ?_
  refine RW.ldL H 14 4 (by rfl) (by kernel_rfl) rfl rfl rfl rfl rfl (by kernel_rfl) ?_
  refine RW.ldL H 3 2 (by rfl) (by kernel_rfl) rfl rfl rfl rfl rfl (by kernel_rfl) ?_
  refine RW.cl (hw := by rfl) ?_
  refine ((isMap_o (h := h) (T := T) (M.next j hj) rfl H).mono ?_)
  clear H
  rintro _ _ ⟨rfl, H⟩
  refine RW.val (by rfl) (by kernel_rfl) rfl (by kernel_rfl) ?_
  refine RW.v ?_
  refine RW.nil ?_
  replace H := (H.del 3)
  dsimp only [setL, delL] at H
  refine W.c1 ?_
  refine W.seq (W.region ?_)
  refine RW.ld H 9 1 ?_
  refine RW.v ?_
  refine RW.ld H 1 2 ?_
  refine RW.ld H 0 2 ?_
  refine RW.val (v := .agg #[.int .i64 ((es.getD j me0).1.1), .int .i64 ((es.getD j me0).1.2), .int .i64 ((es.getD j me0).2.1.1), .int .i64 ((es.getD j me0).2.1.2)]) (by kernel_rfl) (by kernel_rfl) (by kernel_rfl) (by kernel_rfl) ?_
  refine RW.ld H 2 2 ?_
  refine RW.val (v := .agg #[.int .i64 ((es.getD j me0).1.1), .int .i64 ((es.getD j me0).1.2), .int .i64 ((es.getD j me0).2.1.1), .int .i64 ((es.getD j me0).2.1.2), .int .i64 2, .int .i64 ((es.getD j me0).2.2)]) (by kernel_rfl) (by kernel_rfl) (by kernel_rfl) (by kernel_rfl) ?_
  refine RW.yieldL H 10 rfl hl12 (by kernel_rfl) (by kernel_rfl) rfl rfl rfl rfl rfl (by kernel_rfl) ?_
  refine W.rg [(6, pp b3), (7, pp b4), (8, pp b5), (9, pp b6), (14, .func (.func 79) #[] #[pp b7, pp b8]), (15, .int .i64 0), (16, .agg #[.int .i64 ((es.getD j me0).1.1), .int .i64 ((es.getD j me0).1.2), .int .i64 ((es.getD j me0).2.1.1), .int .i64 ((es.getD j me0).2.1.2), .int .i64 2, .int .i64 ((es.getD j me0).2.2)])] fun TA => ?_
  refine W.seq (W.region ?_)
  refine RW.v ?_
  refine RW.nil ?_
  refine W.rg [(6, pp b3), (7, pp b4), (8, pp b5), (9, pp b6), (10, .int .i64 0), (14, .func (.func 79) #[] #[pp b7, pp b8]), (15, .int .i64 0), (16, .agg #[.int .i64 ((es.getD j me0).1.1), .int .i64 ((es.getD j me0).1.2), .int .i64 ((es.getD j me0).2.1.1), .int .i64 ((es.getD j me0).2.1.2), .int .i64 2, .int .i64 ((es.getD j me0).2.2)])] fun TA => ?_
  refine W.region ?_
  refine RW.mk H (.row ⟨[.int .i64 0, .int .i64 0, .int .i64 0, .int .i64 0, .int .i64 0, .int .i64 0], 73, false⟩) ?_
  clear H; intro _ b34 _ H
  refine RW.st H 0 [.int .i64 ((es.getD j me0).1.1), .int .i64 ((es.getD j me0).1.2), .int .i64 ((es.getD j me0).2.1.1), .int .i64 ((es.getD j me0).2.1.2), .int .i64 2, .int .i64 ((es.getD j me0).2.2)] [.int .i64 ((es.getD j me0).1.1), .int .i64 ((es.getD j me0).1.2), .int .i64 ((es.getD j me0).2.1.1), .int .i64 ((es.getD j me0).2.1.2), .int .i64 2, .int .i64 ((es.getD j me0).2.2)] ?_
  clear H; intro _ _ H; dsimp only [setL, delL] at H
  refine RW.nil ?_
  refine ⟨rfl, _, _, _, 11, H, rfl, ?_⟩
  clear H; intro _ lq35 hq36 H
  dsimp only [setL, delL] at H
  refine W.rg [(6, pp b3), (7, pp b4), (8, pp b5), (9, pp b6), (10, .int .i64 0), (11, pp b34), (14, .func (.func 79) #[] #[pp b7, pp b8]), (15, .int .i64 0), (16, .agg #[.int .i64 ((es.getD j me0).1.1), .int .i64 ((es.getD j me0).1.2), .int .i64 ((es.getD j me0).2.1.1), .int .i64 ((es.getD j me0).2.1.2), .int .i64 2, .int .i64 ((es.getD j me0).2.2)])] fun TA => ?_
  refine W.block ?_
  refine W.seq ?_
  refine W.seq (W.region ?_)
  iterate 2 refine RW.v ?_
  refine RW.nil ?_
  refine W.c0 ?_
  refine W.skip ?_
  refine W.seq (W.region ?_)
  iterate 2 refine RW.v ?_
  refine RW.ld H 0 2 ?_
  refine RW.ld H 18 2 ?_
  refine RW.vop (v := .bool (((es.getD j me0).1.1) == ev.1 && ((es.getD j me0).1.2) == ev.2)) (by kernel_rfl) (by kernel_rfl) (vop_eqS (b := (((es.getD j me0).1.1) == ev.1 && ((es.getD j me0).1.2) == ev.2)) (r := (((es.getD j me0).1.1) == ev.1 && ((es.getD j me0).1.2) == ev.2)) rfl (.inl ⟨rfl, rfl⟩) rfl rfl rfl rfl (by kernel_rfl) (fun w => eqWd _ _ _ _ w)) (by kernel_rfl) ?_
  refine RW.v ?_
  refine RW.both _ _ rfl rfl rfl (fun hc37 => ?_) (fun hc37 => ?_)
  ·have hc37b := hc37
   refine RW.ldL H 17 1 (by rfl) (by kernel_rfl) rfl rfl rfl rfl rfl (by kernel_rfl) ?_
   refine RW.val (by rfl) (by kernel_rfl) rfl (by kernel_rfl) ?_
   refine RW.val (by rfl) (by kernel_rfl) rfl (by kernel_rfl) ?_
   refine RW.ldL H 0 2 (by rfl) (by kernel_rfl) rfl rfl rfl rfl rfl (by kernel_rfl) ?_
   refine RW.cl (hw := by rfl) ?_
   refine WC.enter (fn := Tryd.f64) Tryd.func64 rfl ?_
   refine W.rg [(0, .agg #[.int .i64 ((es.getD j me0).2.1.1), .int .i64 ((es.getD j me0).2.1.2)])] fun TA => ?_
   refine W.seq (W.region ?_)
   refine RW.mk H (.row ⟨[.int .i64 ((es.getD j me0).2.1.1), .int .i64 ((es.getD j me0).2.1.2)], 28, false⟩) ?_
   clear H; intro _ b38 _ H
   refine RW.v ?_
   refine RW.nil ?_
   refine W.rg [(1, pp b38)] fun TA => ?_
   refine W.seq ?_
   refine W.drawn (by kernel_rfl) (by kernel_rfl) H.gn ?_
   have H39 := H
   refine RW.ld H39 0 2 ?_
   refine RW.cl ?_
   refine WC.enter (fn := Tryd.f33) Tryd.func33 rfl ?_
   replace H := H39
   refine W.rg [] fun TA => ?_
   refine W.seq (W.region ?_)
   refine RW.mk H (.row ⟨[.int .i64 0, .int .i64 0], 28, false⟩) ?_
   clear H; intro _ b40 _ H
   refine RW.nil ?_
   refine W.rg [(0, pp b40)] fun TA => ?_
   refine W.seq (W.region ?_)
   refine RW.cl ?_
   refine WC.enter (fn := Tryd.f32) Tryd.func32 rfl ?_
   refine W.rg [(0, .int .i64 0)] fun TA => ?_
   refine W.seq (W.region ?_)
   refine RW.mk H (.row ⟨[.int .i64 0, .int .i64 0], 28, false⟩) ?_
   clear H; intro _ b41 _ H
   refine RW.nil ?_
   refine W.rg [(0, .int .i64 0), (2, pp b41)] fun TA => ?_
   refine W.seq (W.region ?_)
   refine RW.v ?_
   refine RW.val (v := .agg #[.int .i64 1, .int .i64 0]) (by kernel_rfl) (by kernel_rfl) (by kernel_rfl) (by kernel_rfl) ?_
   refine RW.st H 0 [.int .i64 1, .int .i64 0] [.int .i64 1, .int .i64 0] ?_
   clear H; intro _ _ H; dsimp only [setL, delL] at H
   refine RW.nil ?_
   refine W.ret ?_
   refine endG (by rfl) (by exact resL_cell rfl (H.get 0 rfl) (by rw [uT_eq]; exact Tryd.underlying28) (by kernel_rfl) rfl rfl rfl) ?_
   refine RW.st H 1 [.int .i64 1, .int .i64 0] [.int .i64 1, .int .i64 0] ?_
   clear H; intro _ _ H; dsimp only [setL, delL] at H
   refine RW.nil ?_
   replace H := (H.del 0)
   dsimp only [setL, delL] at H
   refine W.ret ?_
   refine endG (by rfl) (by exact resL_cell rfl (H.get 0 rfl) (by rw [uT_eq]; exact Tryd.underlying28) (by kernel_rfl) rfl rfl rfl) ?_
   have H42 := H
   refine RW.vop (v := .bool (!(((es.getD j me0).2.1.1) == 1 && ((es.getD j me0).2.1.2) == 0))) (by kernel_rfl) (by kernel_rfl) (vop_eqS (b := (((es.getD j me0).2.1.1) == 1 && ((es.getD j me0).2.1.2) == 0)) (r := !(((es.getD j me0).2.1.1) == 1 && ((es.getD j me0).2.1.2) == 0)) rfl (.inr ⟨rfl, rfl⟩) rfl rfl rfl rfl (by kernel_rfl) (fun w => eqWd _ _ _ _ w)) (by kernel_rfl) ?_
   refine RW.v ?_
   refine RW.nil ?_
   refine ⟨⟨by kernel_rfl, ⟨dyn_row (H39.get 0 rfl) (H42.get 1 rfl) ⟨fun h => Bool.noConfusion h, fun _ => H39.get 0 rfl, fun h => Bool.noConfusion h, fun h => Bool.noConfusion h, trivial⟩, trivial, trivial, trivial, trivial⟩⟩, ?_⟩
   replace H := H42
   clear H39 H42
   replace H := ((H.del 1).del 0)
   dsimp only [setL, delL] at H
   refine W.ret ?_
   refine endG (by rfl) (by exact resL_tmp rfl) ?_
   refine RW.v ?_
   refine RW.nil ?_
   refine W.rg [(6, pp b3), (7, pp b4), (8, pp b5), (9, pp b6), (11, pp b34), (14, .func (.func 79) #[] #[pp b7, pp b8]), (15, .int .i64 0), (16, .agg #[.int .i64 ((es.getD j me0).1.1), .int .i64 ((es.getD j me0).1.2), .int .i64 ((es.getD j me0).2.1.1), .int .i64 ((es.getD j me0).2.1.2), .int .i64 2, .int .i64 ((es.getD j me0).2.2)]), (30, .bool (!(((es.getD j me0).2.1.1) == 1 && ((es.getD j me0).2.1.2) == 0)))] fun TA => ?_
   refine W.cond rfl (fun hc43 => ?_) (fun hc43 => ?_)
   ·have hc43b := hc43
    refine W.seq (W.region ?_)
    refine RW.ld H 0 6 ?_
    refine RW.st H 16 [.int .i64 ((es.getD j me0).1.1), .int .i64 ((es.getD j me0).1.2), .int .i64 ((es.getD j me0).2.1.1), .int .i64 ((es.getD j me0).2.1.2), .int .i64 2, .int .i64 ((es.getD j me0).2.2)] [.int .i64 ((es.getD j me0).1.1), .int .i64 ((es.getD j me0).1.2), .int .i64 ((es.getD j me0).2.1.1), .int .i64 ((es.getD j me0).2.1.2), .int .i64 2, .int .i64 ((es.getD j me0).2.2)] ?_
    clear H; intro _ _ H; dsimp only [setL, delL] at H
    refine RW.st H 15 [.bool true] [.bool true] ?_
    clear H; intro _ _ H; dsimp only [setL, delL] at H
    refine RW.nil ?_
    replace H := (H.del 0)
    dsimp only [setL, delL] at H
    refine W.ret ?_
    refine blkQ_ret ?_
    refine ⟨_, _, _, 10, false, .done, (some .ret), H, rfl, rfl, ?_⟩
    clear H; intro _ lr44 _ hr45 H
    dsimp only [setL, delL] at H
    refine RW.v ?_
    refine RW.nil ?_
    replace H := (((H.del 2).del 1).del 0)
    dsimp only [setL, delL] at H
    refine W.c1 ?_
    refine W.ret ?_
    refine blkQ_ret ?_
    refine ⟨_, _, _, 2, false, .done, (some .ret), H, rfl, rfl, ?_⟩
    clear H; intro _ lr46 _ hr47 H
    dsimp only [setL, delL] at H
    refine RW.v ?_
    refine RW.nil ?_
    refine W.c1 ?_
    refine W.ret ?_
    refine seqQ_ret ?_
    refine blkQ_ret ?_
    refine seqQ_ret ?_
    refine rndQ_ret ?_
    refine blkQ_ret ?_
    refine endG (by rfl) (by exact rfl) ?_
    refine ⟨_, _, _, 2, _, _, _, _, H, rfl, hr47, rfl, rfl, ?_⟩
    clear H; intro _ H
    dsimp only [setL, delL] at H
    refine blkQ_ret ?_
    refine endMark H 2 rfl fun _ H => ?_
    dsimp only [setL, delL] at H
    refine endGD0 (by rfl) (by exact rfl) ?_
    refine ⟨_, _, _, 5, _, _, _, _, H, rfl, hr45, rfl, rfl, ?_⟩
    clear H; intro _ H
    dsimp only [setL, delL] at H
    refine blkQ_ret ?_
    refine seqQ_ret ?_
    refine endMark H 5 rfl fun _ H => ?_
    dsimp only [setL, delL] at H
    refine endGD0 (by rfl) (by exact resL_cell rfl (H.get 8 rfl) (by rw [uT_eq]; exact Tryd.underlying73) (by kernel_rfl) rfl rfl (by exact resL_cell rfl (H.get 7 rfl) (by rw [uT_eq]; exact Tryd.underlying4) (by kernel_rfl) rfl rfl rfl)) ?_
    exact ⟨ownV_hit (by omega) hN (by unfold pB; rw [not_t hc43b, hc37b] <;> first | rfl | simp only [Bool.not_true, Bool.and_false]), (((((((((((H.del 10).del 9).del 8).del 7).del 6).del 5).del 4).del 3).del 2).del 1).del 0)⟩
   ·have hc43b := hc43
    refine W.skip ?_
    refine blkQ_normal ?_
    refine ⟨_, _, _, 11, true, .ready, none, H, rfl, rfl, ?_⟩
    clear H; intro _ lr48 _ hr49 H
    dsimp only [setL, delL] at H
    refine RW.v ?_
    refine RW.nil ?_
    replace H := ((((H.del 3).del 2).del 1).del 0)
    dsimp only [setL, delL] at H
    refine W.c0 ?_
    refine W.skip ?_
    refine blkQ_normal ?_
    refine ⟨_, _, _, 2, true, .ready, none, H, rfl, rfl, ?_⟩
    clear H; intro _ lr50 _ hr51 H
    dsimp only [setL, delL] at H
    refine RW.v ?_
    refine RW.nil ?_
    refine W.c0 ?_
    refine W.skip ?_
    refine W.region ?_
    refine RW.ld H 0 2 ?_
    refine RW.st H 1 [.int .i64 d.1, .int .i64 d.2] [.int .i64 d.1, .int .i64 d.2] ?_
    clear H; intro _ _ H; dsimp only [setL, delL] at H
    refine RW.nil ?_
    replace H := (H.del 0)
    dsimp only [setL, delL] at H
    refine blkQ_normal ?_
    refine W.rg [(0, .func (.yield b18) #[] #[]), (1, pp b15), (5, pp b23), (7, .int .i64 0), (18, .int .i64 ((j : Nat) : Int))] fun TA => ?_
    refine W.region ?_
    refine RW.valE (v' := .int .i64 (((j : Nat) : Int) + 1)) (by kernel_rfl) (by kernel_rfl) rfl (congrArg (Value.int .i64) (wrap_in (by omega) (by omega))) (by kernel_rfl) ?_
    refine RW.v ?_
    refine RW.nil ?_
    rw [show lr50 = lp19 from hr51.trans hl20.symm] at H
    rw [show lr48 = lp11 from hr49.trans hl12.symm] at H
    rw [hd] at H
    exact ⟨rfl, mm - 1, by omega, j + 1, (by omega), (by omega), (take_next (by omega) hN (by unfold pB; rw [not_f hc43b, hc37b] <;> first | rfl | simp only [Bool.not_true, Bool.and_false])), H, rfl, rfl, rfl, rfl, rfl⟩
  ·have hc37b := hc37
   refine RW.skip (by rfl) (by kernel_rfl) ?_
   refine RW.skip (by rfl) (by kernel_rfl) ?_
   refine RW.skip (by rfl) (by kernel_rfl) ?_
   refine RW.skip (by rfl) (by kernel_rfl) ?_
   refine RW.skip (by rfl) (by kernel_rfl) ?_
   refine RW.v ?_
   refine RW.nil ?_
   refine W.c0 ?_
   refine W.skip ?_
   refine blkQ_normal ?_
   refine ⟨_, _, _, 11, true, .ready, none, H, rfl, rfl, ?_⟩
   clear H; intro _ lr52 _ hr53 H
   dsimp only [setL, delL] at H
   refine RW.v ?_
   refine RW.nil ?_
   replace H := ((((H.del 3).del 2).del 1).del 0)
   dsimp only [setL, delL] at H
   refine W.c0 ?_
   refine W.skip ?_
   refine blkQ_normal ?_
   refine ⟨_, _, _, 2, true, .ready, none, H, rfl, rfl, ?_⟩
   clear H; intro _ lr54 _ hr55 H
   dsimp only [setL, delL] at H
   refine RW.v ?_
   refine RW.nil ?_
   refine W.c0 ?_
   refine W.skip ?_
   refine W.region ?_
   refine RW.ld H 0 2 ?_
   refine RW.st H 1 [.int .i64 d.1, .int .i64 d.2] [.int .i64 d.1, .int .i64 d.2] ?_
   clear H; intro _ _ H; dsimp only [setL, delL] at H
   refine RW.nil ?_
   replace H := (H.del 0)
   dsimp only [setL, delL] at H
   refine blkQ_normal ?_
   refine W.rg [(0, .func (.yield b18) #[] #[]), (1, pp b15), (5, pp b23), (7, .int .i64 0), (18, .int .i64 ((j : Nat) : Int))] fun TA => ?_
   refine W.region ?_
   refine RW.valE (v' := .int .i64 (((j : Nat) : Int) + 1)) (by kernel_rfl) (by kernel_rfl) rfl (congrArg (Value.int .i64) (wrap_in (by omega) (by omega))) (by kernel_rfl) ?_
   refine RW.v ?_
   refine RW.nil ?_
   rw [show lr54 = lp19 from hr55.trans hl20.symm] at H
   rw [show lr52 = lp11 from hr53.trans hl12.symm] at H
   rw [hd] at H
   exact ⟨rfl, mm - 1, by omega, j + 1, (by omega), (by omega), (take_next (by omega) hN (by unfold pB; rw [hc37b] <;> first | rfl | simp only [Bool.not_true, Bool.and_false])), H, rfl, rfl, rfl, rfl, rfl⟩
end
end Go.Proofs.YtdbmflnkdoeaoaaDoor
