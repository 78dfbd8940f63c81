/-
 Cells set at a place that is open, in a row that stands alone. Over any program. Conditions: none.
 The row that is being filled. Conditions: none.
 The checks of parts, the cells of a character. Conditions: the tables of unicode/utf8 lie.
 The rows of parts in plain words. Conditions: none.
-/
import Derived.Test.YtmmapljeeccdnaaDoorK1
import Derived.Test.YtmmapljeeccdnaaDoorK3
import Derived.Test.YtmmapljeeccdnaaDoorL3
import Derived.Test.YtmmapljeeccdnaaDoorRunes
import Derived.Test.YtmmapljeeccdnaaDoorL4
import Derived.Test.YtmmapljeeccdnaaDoorS4
namespace Go.Proofs.YtmmapljeeccdnaaDoor
set_option maxRecDepth 100000
section
variable {P : Program} {G nt : Nat} {ops : Array Oper} {l : List Oper} {o : Oper} {ta : Nat → Value} {σ : Mem} {rs : List (Rec × Mem)} {A : Abs} {F : Nat → Option Blk2} {L : List Ent} {K : List (Rec × Mem) → (Nat → Value) → Mem → Prop}
theorem RW.idxE {t e : TypeId} {s : Nat} {x ix : Operand} {b : Nat} {sp : Option Nat} {n c : Nat} {k : IntKind} {i : Int} (hw : wantedT ops ta o = true) (hk : opndOk G o = true) (ho : o.op = .indexAddr t x ix) (hu : P.underlying t = some (.slice e)) (hs : sizeT P e = some s) (hx : oper2 ta x = .slice (some ⟨b, 0, sp⟩) n c) (hi : oper2 ta ix = .int k i) (hin : 0 ≤ i ∧ i < n) (hd : dstOk nt o.dst = true)
  (h : ∀ q, q = i.toNat * s → RW G P nt ops l (putO ta o.dst (.pointer (some ⟨b, q, none⟩))) σ ((.val (.pointer (some ⟨b, q, none⟩)), σ) :: rs) K) : RW G P nt ops (o :: l) ta σ rs K :=
 RW.idx hw hk ho hu hs hx hi hin hd (by
  have := h _ rfl
  rwa [← Nat.zero_add (i.toNat * s)] at this)
theorem RW.stE (H : Lies G A F σ L) (k : Nat) {b p : Nat} {r : Row} {vs : List Value} (hl : lookL L k = some (.at_ b (.row r))) (hp : p + vs.length ≤ r.cs.length) {t : TypeId} {a x : Operand} (hw : wantedT ops ta o = true) (hk : opndOk G o = true) (ho : o.op = .store t a x) (ha : oper2 ta a = .pointer (some ⟨b, p, none⟩)) (hx : (oper2 ta x).cells.toList = vs) (h1 : vs.all (·.oneCell') = true) (hsz : sizeT P t = some vs.length) (hd : dstOk nt o.dst = true)
  (h : ∀ σ', Lies G A F σ' (setL L k (.at_ b (.row ⟨overL r.cs p vs, r.t, r.g⟩))) → RW G P nt ops l (putO ta o.dst undef) σ' ((.eff undef, σ) :: rs) K) : RW G P nt ops (o :: l) ta σ rs K := by
 have hr := H.get k hl
 have hsv : (oper2 ta x).cells.size = vs.length := by rw [← hx]; simp
 have he := eop_store (P := P) (G := G) ho ha (H.low k hl) hr (by rw [hsz, hsv]) (by rw [hsv]; omega) (by rw [← Array.all_toList, hx]; exact h1)
 rw [hx] at he
 exact RW.eff hw hk he hd (h _ (H.put k _ hl))
end
def overC {α : Type} (l : List α) (n : Nat) (xs : List α) : List α := l.take n ++ xs ++ l.drop (n + xs.length)
theorem overC_len {α : Type} {l : List α} {n : Nat} {xs : List α} (h : n + xs.length ≤ l.length) : (overC l n xs).length = l.length := by
 unfold overC
 rw [List.length_append, List.length_append, List.length_take, List.length_drop]
 omega
theorem overC_nil {α : Type} (l : List α) (n : Nat) : overC l n [] = l := by
 unfold overC
 rw [List.append_nil, List.length_nil, Nat.add_zero, List.take_append_drop]
theorem overC_snoc {α : Type} {l : List α} {n : Nat} {xs : List α} {x : α} (h : n + xs.length < l.length) : overC (overC l n xs) (n + xs.length) [x] = overC l n (xs ++ [x]) := by
 have e1 : (l.take n ++ xs).length = n + xs.length := by rw [List.length_append, List.length_take]; omega
 unfold overC
 rw [← e1, List.take_left, ← List.drop_drop, List.drop_left, e1, List.drop_drop, List.length_singleton, List.length_append, List.length_singleton, List.append_assoc, List.append_assoc, List.append_assoc, List.append_assoc]
 rfl
theorem overL_map {α : Type} (f : α → Value) (l : List α) (n : Nat) (x : α) : overL (l.map f) (n * 1) [f x] = (overC l n [x]).map f := by
 unfold overL overC
 rw [Nat.mul_one, List.map_append, List.map_append, List.map_take, List.map_drop]
 rfl
end Go.Proofs.YtmmapljeeccdnaaDoor
namespace Go.Proofs.YtmmapljeeccdnaaDoor
set_option maxRecDepth 100000
structure Fil where
 C : List Cel
 P : List Int
 n : Nat
 fr : Int
 co : Bool
def Fil.Ok (wd : Nat) (s : Fil) : Prop := s.C.length = wd ∧ s.P.length = wd ∧ s.n < wd
def fil0 (wd : Nat) : Fil := ⟨List.replicate wd blk, List.replicate wd (-1), 0, 0, false⟩
def endF (s : Fil) (pos : Int) : Fil := ⟨s.C, overC s.P s.n [pos], s.n, if s.n = 0 then pos else s.fr, s.co⟩
def markC (C : List Cel) (c : Int) : List Cel := C.set (C.length - 1) { C.getD (C.length - 1) default with a := c }
def markF (s : Fil) (c : Int) : Fil := ⟨markC s.C c, s.P, s.n, s.fr, s.co⟩
def putF (wd : Nat) (s : Fil) (X : List Cel) (pos : Int) : Fil × Bool :=
 if s.n + X.length > wd - 1 then (s, false) else (⟨overC s.C s.n X, overC s.P s.n (List.replicate X.length pos), s.n + X.length, if s.n = 0 then pos else s.fr, s.co⟩, true)
def FE (q bc bp wd : Nat) (s : Fil) : List Ent := [.at_ q (.row ⟨[.slice (some ⟨bc, 0, none⟩) wd wd, .slice (some ⟨bp, 0, none⟩) wd wd, .int .i64 s.fr, .int .i64 0, .bool s.co, .int .i64 ((s.n : Nat) : Int)], 99, false⟩), .at_ bc (.row ⟨cC s.C, 79, false⟩), .at_ bp (.row ⟨s.P.map (Value.int .i64), 3, false⟩)]
theorem neg_ints : ∀ n, zerosN [.int .i64 (-1)] n = (List.replicate n (-1)).map (Value.int .i64)
 | 0 => rfl
 | n + 1 => by
  show _ ++ _ = _
  rw [neg_ints n]
  rfl
theorem cC_take : ∀ (a : List Cel) (n : Nat), (cC a).take (n * 6) = cC (a.take n)
 | [], n => by simp [cC]
 | x :: a, 0 => rfl
 | x :: a, n + 1 => by
  have h := cC_take a n
  rw [List.take_succ_cons, show cC (x :: a) = x.vs ++ cC a from rfl, show cC (x :: a.take n) = x.vs ++ cC (a.take n) from rfl, ← h, show (n + 1) * 6 = 6 + n * 6 by omega, List.take_add]
  rfl
theorem cC_drop : ∀ (a : List Cel) (n : Nat), (cC a).drop (n * 6) = cC (a.drop n)
 | [], n => by simp [cC]
 | x :: a, 0 => rfl
 | x :: a, n + 1 => by
  have h := cC_drop a n
  rw [List.drop_succ_cons, ← h, show cC (x :: a) = x.vs ++ cC a from rfl, show (n + 1) * 6 = 6 + n * 6 by omega, ← List.drop_drop]
  rfl
theorem over_cells (C : List Cel) (i : Nat) (x : Cel) : overL (cC C) (i * 6) x.vs = cC (overC C i [x]) := by
 unfold overL overC
 rw [cC_app, cC_app, cC_take, show i * 6 + x.vs.length = (i + [x].length) * 6 by show i * 6 + 6 = (i + 1) * 6; omega, cC_drop]
 rfl
theorem put_cells {C X : List Cel} {n j : Nat} (hj : j < X.length) (h : n + X.length < C.length) : overL (cC (overC C n (X.take j))) ((((n + j : Nat) : Int)).toNat * 6) [.int .i64 (X.getD j default).a, .int .i64 (X.getD j default).b, .int .i64 (X.getD j default).c, .bool (X.getD j default).d, .bool (X.getD j default).e, .bool (X.getD j default).f] = cC (overC C n (X.take (j + 1))) := by
 have ht : (X.take j).length = j := by rw [List.length_take]; omega
 have e1 := over_cells (overC C n (X.take j)) (n + j) (X.getD j default)
 have e2 := overC_snoc (l := C) (n := n) (xs := X.take j) (x := X.getD j default) (by omega)
 rw [ht] at e2
 rw [Int.toNat_natCast, List.take_add_one, List.getElem?_eq_getElem hj]
 rw [e2, List.getD_eq_getElem?_getD, List.getElem?_eq_getElem hj] at e1
 rw [List.getD_eq_getElem?_getD, List.getElem?_eq_getElem hj]
 exact e1
theorem put_poss {Q : List Int} {n j : Nat} {pos : Int} (h : n + j < Q.length) : overL ((overC Q n (List.replicate j pos)).map (Value.int .i64)) ((((n + j : Nat) : Int)).toNat * 1) [.int .i64 pos] = (overC Q n (List.replicate (j + 1) pos)).map (Value.int .i64) := by
 have ht : (List.replicate j pos).length = j := List.length_replicate ..
 have e2 := overC_snoc (l := Q) (n := n) (xs := List.replicate j pos) (x := pos) (by omega)
 rw [ht] at e2
 rw [Int.toNat_natCast, overL_map (Value.int .i64), e2, List.replicate_succ']
theorem mark_cells {C : List Cel} {c i : Int} (h : 0 < C.length) (hi : i = (C.length : Int) - 1) : overL (cC C) (i.toNat * 6) [.int .i64 c] = cC (markC C c) := by
 have e : i.toNat = C.length - 1 := by omega
 have hd : C.drop (C.length - 1) = [C.getD (C.length - 1) default] := by
  rw [List.drop_eq_getElem_cons (by omega), List.getD_eq_getElem?_getD, List.getElem?_eq_getElem (by omega), List.drop_of_length_le (by omega)]
  rfl
 have h0 : C.drop (C.length - 1 + 1) = [] := List.drop_of_length_le (by omega)
 have hC : C = C.take (C.length - 1) ++ [C.getD (C.length - 1) default] := by rw [← hd, List.take_append_drop]
 unfold overL markC
 rw [e, cC_take, List.set_eq_take_append_cons_drop, if_pos (by omega), h0, cC_app, List.append_assoc]
 congr 1
 have : (cC C).drop ((C.length - 1) * 6 + 1) = ((cC C).drop ((C.length - 1) * 6)).drop 1 := by rw [List.drop_drop]
 rw [show [Value.int .i64 c].length = 1 from rfl, this, cC_drop, hd]
 rfl
section
variable {G : Nat} {A : Abs} {σ : Mem} {F : Nat → Option Blk2} {L : List Ent} {q bc bp wd : Nat} {s : Fil} {pos c : Int}
set_option maxHeartbeats 4000000 in
theorem repeat_neg {k : Nat} {v : Value} (hs : SlF F 1 v 1 [.int .i64 (-1)]) (hk : 0 < k) (hk2 : k ≤ 1000000) (H : Lies G A F σ L) : WC G Tryd.prog 64 #[v, .int .i64 ((k : Nat) : Int)] σ fun r σ' => ∃ b, r = .slice (some ⟨b, 0, none⟩) k k ∧ Lies G A F σ' (.at_ b (.row ⟨zerosN [.int .i64 (-1)] k, 3, false⟩) :: L) := by
 refine WC.enter (fn := Tryd.f64) Tryd.func64 rfl ?_
 refine W.rg [(0, v), (1, .int .i64 ((k : Nat) : Int))] fun TA => ?_
 refine W.seq (W.region ?_)
 refine RW.v ?_
 refine RW.nil ?_
 refine W.rg [(0, v), (1, .int .i64 ((k : Nat) : Int))] fun TA => ?_
 refine W.seq ?_
 refine W.seq (W.region ?_)
 refine RW.v ?_
 refine RW.valE (v' := .bool false) (by kernel_rfl) (by kernel_rfl) rfl (congrArg Value.bool (decide_eq_false (by omega))) (by kernel_rfl) ?_
 refine RW.nil ?_
 refine W.c0 ?_
 refine W.skip ?_
 refine W.seq (W.region ?_)
 refine RW.v ?_
 refine RW.len (by kernel_rfl) (by kernel_rfl) rfl rfl rfl rfl (hs.len (e := 3) (by kernel_rfl)) (by kernel_rfl) ?_
 refine RW.valE (v' := .int .u64 (1 : Int)) (by kernel_rfl) (by kernel_rfl) rfl (congrArg (Value.int .u64) (wrap_u (by omega) (by omega))) (by kernel_rfl) ?_
 refine RW.v ?_
 refine RW.valE (v' := .int .u64 ((k : Nat) : Int)) (by kernel_rfl) (by kernel_rfl) rfl (congrArg (Value.int .u64) (wrap_u (by omega) (by omega))) (by kernel_rfl) ?_
 refine RW.cl ?_
 refine ⟨_, _, (s_mul1 (k := k) (by omega)), ?_⟩
 iterate 5 refine RW.v ?_
 refine RW.nil ?_
 refine W.rg [(0, v), (5, .int .u64 0), (6, .int .u64 ((k : Nat) : Int))] fun TA => ?_
 refine W.seq ?_
 refine W.seq (W.region ?_)
 iterate 3 refine RW.v ?_
 refine RW.w ?_
 refine RW.valE (v' := .bool false) (by rfl) (by kernel_rfl) rfl (congrArg Value.bool (decide_eq_false (by omega))) (by kernel_rfl) ?_
 refine RW.v ?_
 refine RW.nil ?_
 refine W.c0 ?_
 refine W.skip ?_
 refine W.seq (W.region ?_)
 refine RW.v ?_
 refine RW.valE (v' := .int .i64 ((k : Nat) : Int)) (by kernel_rfl) (by kernel_rfl) rfl (congrArg (Value.int .i64) (wrap_in (by omega) (by omega))) (by kernel_rfl) ?_
 refine RW.mkB H (e := 3) (n := k) (s := 1) (zs := [.int .i64 0]) (z := .int .i64 0) (by kernel_rfl) (by kernel_rfl) rfl rfl rfl (by kernel_rfl) (by kernel_rfl) (by decide) (by kernel_rfl) (by kernel_rfl) rfl (by omega) (by kernel_rfl) rfl ?_
 clear H; intro _ b H
 refine RW.v ?_
 refine RW.nil ?_
 refine W.rg [(0, v), (7, .slice (some ⟨b, 0, none⟩) k k)] fun TA => ?_
 refine W.seq (W.region ?_)
 iterate 2 refine RW.v ?_
 refine RW.cpy H 0 (e := 3) (s := 1) (q := 1) (by kernel_rfl) (by kernel_rfl) rfl rfl rfl rfl rfl rfl rfl (by kernel_rfl) (by kernel_rfl) (slf_src hs (by decide) H.old) (Nat.min_eq_left hk) (by decide) (by rw [zerosN_len]; show 0 + 1 ≤ k * 1; omega) rfl (rowB_start (s := 1) rfl rfl hk) (by kernel_rfl) ?_
 clear H; intro _ H
 dsimp only [setL, delL] at H
 refine RW.v ?_
 refine RW.nil ?_
 refine W.rg [(7, .slice (some ⟨b, 0, none⟩) k k), (8, .int .i64 ((1 : Nat) : Int))] fun TA => ?_
 refine W.seq ?_
 refine W.block ?_
 refine W.loop (fun mm ta σ => ∃ (m : Nat), (mm + m = k) ∧ (0 < m) ∧ (m ≤ k) ∧ Lies G A F σ (.at_ b (.row ⟨rowB [.int .i64 (-1)] [.int .i64 0] k m, 3, false⟩) :: (L)) ∧ ta 7 = .slice (some ⟨b, 0, none⟩) k k ∧ ta 8 = .int .i64 ((m : Nat) : Int)) (k - 1) ?_ ?_
 ·exact ⟨1, (by omega), (by omega), hk, H, rfl, rfl⟩
 clear H
 rintro mm ta _ ⟨m, hm, hm0, hmN, H, e7, e8⟩
 refine W.rst [(7, .slice (some ⟨b, 0, none⟩) k k), (8, .int .i64 ((m : Nat) : Int))] ⟨e7, e8, trivial⟩ fun TA => ?_
 clear e7 e8
 refine W.seq ?_
 refine W.seq (W.region ?_)
 iterate 4 refine RW.v ?_
 refine RW.nil ?_
 refine W.rg [(7, .slice (some ⟨b, 0, none⟩) k k), (8, .int .i64 ((m : Nat) : Int)), (37, .bool (decide (((m : Nat) : Int) < ((k : Nat) : Int))))] fun TA => ?_
 refine W.cond rfl (fun hc1 => ?_) (fun hc1 => ?_)
 ·have hc1b := hc1
  have hc1 := of_decide_eq_true hc1
  refine W.skip ?_
  refine W.block ?_
  refine W.drawn (by kernel_rfl) (by kernel_rfl) H.gn ?_
  have H2 := H
  iterate 3 refine RW.v ?_
  have hlt : m < k := by omega
  refine RW.vop (v := .slice (some ⟨b, m * 1, none⟩) (k - m) (k - m)) (by kernel_rfl) (by kernel_rfl) (vop_slice rfl (slice_fromB (e := 3) (s := 1) hlt (by kernel_rfl) (by kernel_rfl))) (by kernel_rfl) ?_
  iterate 2 refine RW.v ?_
  refine RW.vop (v := .slice (some ⟨b, 0, none⟩) m k) (by kernel_rfl) (by kernel_rfl) (vop_slice rfl (slice_toB (e := 3) (s := 1) hmN (by kernel_rfl) (by kernel_rfl) (by omega))) (by kernel_rfl) ?_
  have hrl : (rowB [.int .i64 (-1)] [.int .i64 0] k m).length = k * 1 := rowB_len (s := 1) rfl rfl hmN
  refine RW.cpy H2 0 (e := 3) (s := 1) (n := m) (xs := ((rowB [.int .i64 (-1)] [.int .i64 0] k m).drop 0).take (m * 1)) (q := (min m (k - m))) (by kernel_rfl) (by kernel_rfl) rfl rfl rfl rfl rfl rfl rfl (by kernel_rfl) (by kernel_rfl) (src_rowB (H2.get 0 rfl) (by omega) (by rw [hrl]; omega)) rfl (by omega) (by rw [List.length_take, List.length_take, List.drop_zero, hrl]; omega) (rowB_ones' rfl rfl _ _ _) (rowB_next (s := 1) rfl rfl (by omega) (by omega)) (by kernel_rfl) ?_
  intro _ H3
  dsimp only [setL, delL] at H3
  refine RW.valE (v' := .int .i64 ((m + min m (k - m) : Nat) : Int)) (by kernel_rfl) (by kernel_rfl) rfl (congrArg (Value.int .i64) ((wrap_in (by omega) (by omega)).trans (by omega))) (by kernel_rfl) ?_
  refine RW.v ?_
  refine RW.nil ?_
  refine ⟨⟨by kernel_rfl, ⟨trivial, trivial, trivial, trivial, trivial, trivial, trivial, trivial, trivial, trivial, trivial⟩⟩, ?_⟩
  replace H := H3
  clear H2 H3
  refine blkQ_normal ?_
  exact ⟨rfl, mm - (min m (k - m)), by omega, m + min m (k - m), (by omega), (by omega), (by omega), H, rfl, rfl⟩
 ·have hc1b := hc1
  have hc1 := of_decide_eq_false hc1
  refine W.exit _ ?_
  refine seqQ_exit ?_
  refine rndQ_exit ?_
  refine blkQ_here ?_
  refine W.seq (W.region ?_)
  iterate 2 refine RW.v ?_
  refine RW.nil ?_
  refine W.ret ?_
  refine endG (by rfl) (by exact resL_tmp rfl) ?_
  obtain rfl : m = k := by omega
  rw [rowB_full] at H
  exact ⟨_, rfl, H⟩
set_option maxHeartbeats 4000000 in
theorem fill_wc (hw1 : 1 ≤ wd) (hw2 : wd ≤ 1000) (H : Lies G A F σ L) : WC G Tryd.prog 51 #[.int .i64 ((wd : Nat) : Int)] σ fun r σ' => ∃ q bc bp, r = .pointer (some ⟨q, 0, none⟩) ∧ Lies G A F σ' (FE q bc bp wd (fil0 wd) ++ L) := by
 refine WC.enter (fn := Tryd.f51) Tryd.func51 rfl ?_
 refine W.rg [(0, .int .i64 ((wd : Nat) : Int))] fun TA => ?_
 refine W.seq (W.region ?_)
 refine RW.v ?_
 refine RW.nil ?_
 refine W.rg [(0, .int .i64 ((wd : Nat) : Int))] fun TA => ?_
 refine W.seq (W.region ?_)
 refine RW.v ?_
 refine RW.cl ?_
 refine WC.enter (fn := Tryd.f26) Tryd.func26 rfl ?_
 refine W.rg [(0, .int .i64 ((wd : Nat) : Int))] fun TA => ?_
 refine W.seq (W.region ?_)
 refine RW.v ?_
 refine RW.nil ?_
 refine W.rg [(0, .int .i64 ((wd : Nat) : Int))] fun TA => ?_
 refine W.seq ?_
 refine W.seq (W.region ?_)
 refine RW.v ?_
 refine RW.valE (v' := .bool false) (by kernel_rfl) (by kernel_rfl) rfl (congrArg Value.bool (decide_eq_false (by omega))) (by kernel_rfl) ?_
 refine RW.nil ?_
 refine W.c0 ?_
 refine W.skip ?_
 refine W.seq (W.region ?_)
 refine RW.val (v := .agg #[.int .i64 32, .int .i64 0, .int .i64 0, .bool false, .bool false, .bool false]) (by kernel_rfl) (by kernel_rfl) (by kernel_rfl) (by kernel_rfl) ?_
 refine RW.mkL H (x := .row ⟨[.int .i64 32, .int .i64 0, .int .i64 0, .bool false, .bool false, .bool false], 79, false⟩) (fm := fun b => .slice (some ⟨b, 0, none⟩) 1 1) (by kernel_rfl) (by kernel_rfl) (by kernel_rfl) (by kernel_rfl) ?_
 clear H; intro _ b1 _ H
 refine RW.v ?_
 refine RW.cl ?_
 refine ((repeat_cell (k := wd) (.some (H.get 0 rfl) rfl rfl) (by omega) (by omega) (Lies.start H.gn H.abs)).mono ?_)
 rintro _ _ ⟨bc, rfl, K⟩
 replace H : Lies G A F _ (.at_ bc (.row ⟨zerosN [.int .i64 32, .int .i64 0, .int .i64 0, .bool false, .bool false, .bool false] wd, 79, false⟩) :: .at_ b1 (.row ⟨[.int .i64 32, .int .i64 0, .int .i64 0, .bool false, .bool false, .bool false], 79, false⟩) :: (L)) := H.then K
 clear K
 refine RW.v ?_
 refine RW.nil ?_
 replace H := (H.del 1)
 dsimp only [setL, delL] at H
 refine W.ret ?_
 refine endG (by rfl) (by exact resL_tmp rfl) ?_
 refine RW.mkL H (x := .row ⟨[.int .i64 (-1)], 3, false⟩) (fm := fun b => .slice (some ⟨b, 0, none⟩) 1 1) (by kernel_rfl) (by kernel_rfl) (by kernel_rfl) (by kernel_rfl) ?_
 clear H; intro _ b2 _ H
 refine RW.v ?_
 refine RW.cl ?_
 refine ((repeat_neg (k := wd) (.some (H.get 0 rfl) rfl rfl) (by omega) (by omega) (Lies.start H.gn H.abs)).mono ?_)
 rintro _ _ ⟨bp, rfl, K⟩
 replace H : Lies G A F _ (.at_ bp (.row ⟨zerosN [.int .i64 (-1)] wd, 3, false⟩) :: .at_ b2 (.row ⟨[.int .i64 (-1)], 3, false⟩) :: .at_ bc (.row ⟨zerosN [.int .i64 32, .int .i64 0, .int .i64 0, .bool false, .bool false, .bool false] wd, 79, false⟩) :: (L)) := H.then K
 clear K
 refine RW.val (v := .agg #[.slice (some ⟨bc, 0, none⟩) wd wd, .slice (some ⟨bp, 0, none⟩) wd wd, .int .i64 0, .int .i64 0, .bool false]) (by kernel_rfl) (by kernel_rfl) (by kernel_rfl) (by kernel_rfl) ?_
 refine RW.val (v := .agg #[.slice (some ⟨bc, 0, none⟩) wd wd, .slice (some ⟨bp, 0, none⟩) wd wd, .int .i64 0, .int .i64 0, .bool false, .int .i64 0]) (by kernel_rfl) (by kernel_rfl) (by kernel_rfl) (by kernel_rfl) ?_
 refine RW.mk H (.row ⟨[.slice (some ⟨bc, 0, none⟩) wd wd, .slice (some ⟨bp, 0, none⟩) wd wd, .int .i64 0, .int .i64 0, .bool false, .int .i64 0], 99, false⟩) ?_
 clear H; intro _ b3 _ H
 refine RW.v ?_
 refine RW.nil ?_
 replace H := (H.del 2)
 dsimp only [setL, delL] at H
 refine W.ret ?_
 refine endG (by rfl) (by exact resL_tmp rfl) ?_
 rw [blank_cC, neg_ints] at H
 have K := H
 replace K := K.front 1 rfl
 dsimp only [delL] at K
 replace K := K.front 2 rfl
 dsimp only [delL] at K
 replace K := K.front 2 rfl
 dsimp only [delL] at K
 exact ⟨_, _, _, rfl, K⟩
set_option maxHeartbeats 4000000 in
theorem end_wc (ok : s.Ok wd) (hw2 : wd ≤ 1000) (H : Lies G A F σ (FE q bc bp wd s ++ L)) : WC G Tryd.prog 53 #[.pointer (some ⟨q, 0, none⟩), .int .i64 pos] σ fun _ σ' => Lies G A F σ' (FE q bc bp wd (endF s pos) ++ L) := by
 replace H : Lies G A F σ (.at_ q (.row ⟨[.slice (some ⟨bc, 0, none⟩) wd wd, .slice (some ⟨bp, 0, none⟩) wd wd, .int .i64 s.fr, .int .i64 0, .bool s.co, .int .i64 ((s.n : Nat) : Int)], 99, false⟩) :: .at_ bc (.row ⟨cC s.C, 79, false⟩) :: .at_ bp (.row ⟨s.P.map (Value.int .i64), 3, false⟩) :: (L)) := H
 obtain ⟨hCl, hPl, hsn⟩ := ok
 refine WC.enter (fn := Tryd.f53) Tryd.func53 rfl ?_
 refine W.rg [(0, .pointer (some ⟨q, 0, none⟩)), (1, .int .i64 pos)] fun TA => ?_
 refine W.seq ?_
 refine W.drawn (by kernel_rfl) (by kernel_rfl) H.gn ?_
 have H1 := H
 iterate 4 refine RW.v ?_
 refine RW.ld H1 0 1 ?_
 iterate 3 refine RW.v ?_
 refine RW.ld H1 0 1 ?_
 refine RW.v ?_
 refine RW.idxE (s := 1) (by kernel_rfl) (by kernel_rfl) rfl Tryd.underlying37 (by kernel_rfl) rfl rfl ⟨by omega, by omega⟩ (by kernel_rfl) ?_
 intro q2 q2e
 refine RW.stE H1 2 rfl (vs := [.int .i64 pos]) (by rw [List.length_map, hPl, q2e]; simp; omega) (by kernel_rfl) (by kernel_rfl) rfl rfl rfl rfl (by kernel_rfl) (by kernel_rfl) ?_
 intro _ H3
 dsimp only [setL, delL] at H3
 replace H3 : Lies G A F _ (.at_ q (.row ⟨[.slice (some ⟨bc, 0, none⟩) wd wd, .slice (some ⟨bp, 0, none⟩) wd wd, .int .i64 s.fr, .int .i64 0, .bool s.co, .int .i64 ((s.n : Nat) : Int)], 99, false⟩) :: .at_ bc (.row ⟨cC s.C, 79, false⟩) :: .at_ bp (.row ⟨overL (s.P.map (Value.int .i64)) q2 [.int .i64 pos], 3, false⟩) :: (L)) := H3
 rw [show overL (s.P.map (Value.int .i64)) q2 [.int .i64 pos] = (overC s.P s.n [pos]).map (Value.int .i64) by rw [q2e]; simpa using overL_map (Value.int .i64) s.P s.n pos] at H3
 refine RW.nil ?_
 refine ⟨⟨by kernel_rfl, ⟨trivial, trivial, trivial, trivial, dyn_row (H1.get 0 rfl) (H3.get 0 rfl) ⟨nB, nB, nB, nB, nB, nB, nB, nB, nB, nB, nB, fun _ => H1.get 0 rfl, trivial⟩, trivial, trivial, trivial, dyn_row (H1.get 0 rfl) (H3.get 0 rfl) ⟨nB, nB, nB, nB, nB, nB, nB, nB, nB, nB, nB, fun _ => H1.get 0 rfl, trivial⟩, trivial, trivial, trivial, trivial⟩⟩, ?_⟩
 replace H := H3
 clear H1 H3
 refine W.rg [(0, .pointer (some ⟨q, 0, none⟩)), (1, .int .i64 pos)] fun TA => ?_
 refine W.seq (W.region ?_)
 iterate 3 refine RW.v ?_
 refine RW.ld H 0 1 ?_
 refine RW.v ?_
 refine RW.nil ?_
 refine W.rg [(0, .pointer (some ⟨q, 0, none⟩)), (1, .int .i64 pos), (19, .bool (((s.n : Nat) : Int) == 0))] fun TA => ?_
 refine W.cond rfl (fun hc4 => ?_) (fun hc4 => ?_)
 ·have hc4b := hc4
  have hc4 := eq_of_beq hc4
  refine W.region ?_
  iterate 5 refine RW.v ?_
  refine RW.st H 0 [.int .i64 pos] [.slice (some ⟨bc, 0, none⟩) wd wd, .slice (some ⟨bp, 0, none⟩) wd wd, .int .i64 pos, .int .i64 0, .bool s.co, .int .i64 ((s.n : Nat) : Int)] ?_
  clear H; intro _ _ H; dsimp only [setL, delL] at H
  refine RW.nil ?_
  refine endG (by rfl) (by exact rfl) ?_
  have ef : endF s pos = ⟨s.C, overC s.P s.n [pos], s.n, pos, s.co⟩ := by unfold endF; rw [if_pos (by omega)]
  rw [ef]
  exact H
 ·have hc4b := hc4
  have hc4 := ne_of_beq_false hc4
  refine W.skip ?_
  refine endG (by rfl) (by exact rfl) ?_
  have ef : endF s pos = ⟨s.C, overC s.P s.n [pos], s.n, s.fr, s.co⟩ := by unfold endF; rw [if_neg (by omega)]
  rw [ef]
  exact H
set_option maxHeartbeats 4000000 in
theorem mark_wc (ok : s.Ok wd) (hw2 : wd ≤ 1000) (H : Lies G A F σ (FE q bc bp wd s ++ L)) : WC G Tryd.prog 55 #[.pointer (some ⟨q, 0, none⟩), .int .i64 c] σ fun _ σ' => Lies G A F σ' (FE q bc bp wd (markF s c) ++ L) := by
 replace H : Lies G A F σ (.at_ q (.row ⟨[.slice (some ⟨bc, 0, none⟩) wd wd, .slice (some ⟨bp, 0, none⟩) wd wd, .int .i64 s.fr, .int .i64 0, .bool s.co, .int .i64 ((s.n : Nat) : Int)], 99, false⟩) :: .at_ bc (.row ⟨cC s.C, 79, false⟩) :: .at_ bp (.row ⟨s.P.map (Value.int .i64), 3, false⟩) :: (L)) := H
 obtain ⟨hCl, hPl, hsn⟩ := ok
 refine WC.enter (fn := Tryd.f55) Tryd.func55 rfl ?_
 refine W.rg [(0, .pointer (some ⟨q, 0, none⟩)), (1, .int .i64 c)] fun TA => ?_
 refine W.drawn (by kernel_rfl) (by kernel_rfl) H.gn ?_
 have H1 := H
 iterate 4 refine RW.v ?_
 refine RW.ld H1 0 1 ?_
 iterate 4 refine RW.v ?_
 refine RW.ld H1 0 1 ?_
 refine RW.v ?_
 refine RW.valE (v' := .int .i64 (((wd : Nat) : Int) - 1)) (by kernel_rfl) (by kernel_rfl) rfl (congrArg (Value.int .i64) (wrap_in (by omega) (by omega))) (by kernel_rfl) ?_
 refine RW.v ?_
 refine RW.idxE (s := 6) (by kernel_rfl) (by kernel_rfl) rfl Tryd.underlying36 (by kernel_rfl) rfl rfl ⟨by omega, by omega⟩ (by kernel_rfl) ?_
 intro q2 q2e
 refine RW.v ?_
 refine RW.stE H1 1 rfl (vs := [.int .i64 c]) (by rw [cC_len, hCl, q2e]; simp; omega) (by kernel_rfl) (by kernel_rfl) rfl rfl rfl rfl (by kernel_rfl) (by kernel_rfl) ?_
 intro _ H3
 dsimp only [setL, delL] at H3
 replace H3 : Lies G A F _ (.at_ q (.row ⟨[.slice (some ⟨bc, 0, none⟩) wd wd, .slice (some ⟨bp, 0, none⟩) wd wd, .int .i64 s.fr, .int .i64 0, .bool s.co, .int .i64 ((s.n : Nat) : Int)], 99, false⟩) :: .at_ bc (.row ⟨overL (cC s.C) q2 [.int .i64 c], 79, false⟩) :: .at_ bp (.row ⟨s.P.map (Value.int .i64), 3, false⟩) :: (L)) := H3
 rw [show overL (cC s.C) q2 [.int .i64 c] = cC (markC s.C c) by rw [q2e]; exact mark_cells (by omega) (by omega)] at H3
 refine RW.nil ?_
 refine ⟨⟨by kernel_rfl, ⟨trivial, trivial, trivial, trivial, dyn_row (H1.get 0 rfl) (H3.get 0 rfl) ⟨nB, nB, nB, nB, nB, nB, nB, nB, nB, nB, nB, nB, nB, nB, nB, fun _ => H1.get 0 rfl, trivial⟩, trivial, trivial, trivial, trivial, dyn_row (H1.get 0 rfl) (H3.get 0 rfl) ⟨nB, nB, nB, nB, nB, nB, nB, nB, nB, nB, nB, nB, nB, nB, nB, fun _ => H1.get 0 rfl, trivial⟩, trivial, trivial, trivial, trivial, trivial, trivial, trivial⟩⟩, ?_⟩
 replace H := H3
 clear H1 H3
 refine endG (by rfl) (by exact rfl) ?_
 exact H
set_option maxHeartbeats 8000000 in
theorem put_wc {X : List Cel} {uv : Value} {fd : Bool} (ok : s.Ok wd) (hw2 : wd ≤ 1000) (hX : SlF F 6 uv X.length (cC X)) (hX2 : X.length ≤ 2) (H : Lies G A F σ (FE q bc bp wd s ++ L)) : WC G Tryd.prog 54 #[.pointer (some ⟨q, 0, none⟩), .agg #[uv, .int .i64 pos, .bool fd]] σ fun r σ' => r = .bool (putF wd s X pos).2 ∧ Lies G A F σ' (FE q bc bp wd (putF wd s X pos).1 ++ L) := by
 replace H : Lies G A F σ (.at_ q (.row ⟨[.slice (some ⟨bc, 0, none⟩) wd wd, .slice (some ⟨bp, 0, none⟩) wd wd, .int .i64 s.fr, .int .i64 0, .bool s.co, .int .i64 ((s.n : Nat) : Int)], 99, false⟩) :: .at_ bc (.row ⟨cC s.C, 79, false⟩) :: .at_ bp (.row ⟨s.P.map (Value.int .i64), 3, false⟩) :: (L)) := H
 obtain ⟨hCl, hPl, hsn⟩ := ok
 refine WC.enter (fn := Tryd.f54) Tryd.func54 rfl ?_
 refine W.rg [(0, .pointer (some ⟨q, 0, none⟩)), (1, .agg #[uv, .int .i64 pos, .bool fd])] fun TA => ?_
 refine W.seq (W.region ?_)
 refine RW.mkL H (x := .row ⟨[uv, .int .i64 pos, .bool fd], 96, false⟩) (fm := fun b => .pointer (some ⟨b, 0, none⟩)) (by kernel_rfl) (by kernel_rfl) (by rcases slf_forms hX with rfl | ⟨_, rfl⟩ | ⟨_, _, _, _, _, rfl⟩ <;> kernel_rfl) (by kernel_rfl) ?_
 clear H; intro _ b1 _ H
 refine RW.v ?_
 refine RW.nil ?_
 refine W.rg [(0, .pointer (some ⟨q, 0, none⟩)), (3, .pointer (some ⟨b1, 0, none⟩))] fun TA => ?_
 refine W.seq ?_
 refine W.seq ?_
 refine W.drawn (by kernel_rfl) (by kernel_rfl) H.gn ?_
 have H2 := H
 iterate 3 refine RW.v ?_
 refine RW.ld H2 1 1 ?_
 refine RW.v ?_
 refine RW.ld H2 0 1 ?_
 refine RW.len (by kernel_rfl) (by kernel_rfl) rfl rfl rfl rfl (hX.len (e := 79) (by kernel_rfl)) (by kernel_rfl) ?_
 refine RW.valE (v' := .int .i64 (((s.n : Nat) : Int) + (X.length : Int))) (by kernel_rfl) (by kernel_rfl) rfl (congrArg (Value.int .i64) (wrap_in (by omega) (by omega))) (by kernel_rfl) ?_
 iterate 4 refine RW.v ?_
 refine RW.ld H2 1 1 ?_
 refine RW.v ?_
 refine RW.valE (v' := .int .i64 (((wd : Nat) : Int) - 1)) (by kernel_rfl) (by kernel_rfl) rfl (congrArg (Value.int .i64) (wrap_in (by omega) (by omega))) (by kernel_rfl) ?_
 refine RW.v ?_
 refine RW.nil ?_
 refine ⟨⟨by kernel_rfl, ⟨trivial, trivial, trivial, dyn_row (H2.get 1 rfl) (H2.get 1 rfl) ⟨nB, nB, nB, nB, nB, nB, nB, nB, nB, nB, nB, nB, nB, nB, nB, nB, trivial⟩, trivial, dyn_row (H2.get 0 rfl) (H2.get 0 rfl) ⟨nB, nB, nB, nB, nB, nB, nB, nB, nB, nB, nB, nB, nB, nB, nB, nB, trivial⟩, trivial, trivial, trivial, trivial, trivial, trivial, dyn_row (H2.get 1 rfl) (H2.get 1 rfl) ⟨nB, nB, nB, nB, nB, nB, nB, nB, nB, nB, nB, nB, nB, nB, nB, nB, trivial⟩, trivial, trivial, trivial, trivial⟩⟩, ?_⟩
 replace H := H2
 clear H2
 refine W.rg [(0, .pointer (some ⟨q, 0, none⟩)), (3, .pointer (some ⟨b1, 0, none⟩)), (22, .bool (decide ((((s.n : Nat) : Int) + (X.length : Int)) > (((wd : Nat) : Int) - 1))))] fun TA => ?_
 refine W.cond rfl (fun hc3 => ?_) (fun hc3 => ?_)
 ·have hc3b := hc3
  have hc3 := of_decide_eq_true hc3
  refine W.seq (W.region ?_)
  refine RW.v ?_
  refine RW.nil ?_
  replace H := (H.del 0)
  dsimp only [setL, delL] at H
  refine W.ret ?_
  refine seqQ_ret ?_
  refine endG (by rfl) (by exact resL_tmp rfl) ?_
  have ep : putF wd s X pos = (s, false) := by unfold putF; rw [if_pos (by omega)]
  rw [ep]
  exact ⟨rfl, H⟩
 ·have hc3b := hc3
  have hc3 := of_decide_eq_false hc3
  refine W.skip ?_
  refine W.seq ?_
  refine W.seq (W.region ?_)
  iterate 3 refine RW.v ?_
  refine RW.ld H 1 1 ?_
  refine RW.v ?_
  refine RW.nil ?_
  refine W.rg [(0, .pointer (some ⟨q, 0, none⟩)), (3, .pointer (some ⟨b1, 0, none⟩)), (27, .bool (((s.n : Nat) : Int) == 0))] fun TA => ?_
  refine W.cond rfl (fun hc4 => ?_) (fun hc4 => ?_)
  ·have hc4b := hc4
   have hc4 := eq_of_beq hc4
   refine W.region ?_
   iterate 2 refine RW.v ?_
   refine RW.ld H 0 1 ?_
   iterate 3 refine RW.v ?_
   refine RW.st H 1 [.int .i64 pos] [.slice (some ⟨bc, 0, none⟩) wd wd, .slice (some ⟨bp, 0, none⟩) wd wd, .int .i64 pos, .int .i64 0, .bool s.co, .int .i64 ((s.n : Nat) : Int)] ?_
   clear H; intro _ _ H; dsimp only [setL, delL] at H
   refine RW.nil ?_
   refine W.rg [(0, .pointer (some ⟨q, 0, none⟩)), (3, .pointer (some ⟨b1, 0, none⟩))] fun TA => ?_
   refine W.seq ?_
   refine W.seq (W.region ?_)
   refine RW.v ?_
   refine RW.ld H 0 1 ?_
   refine RW.len (by kernel_rfl) (by kernel_rfl) rfl rfl rfl rfl (hX.len (e := 79) (by kernel_rfl)) (by kernel_rfl) ?_
   refine RW.v ?_
   refine RW.nil ?_
   refine W.rg [(0, .pointer (some ⟨q, 0, none⟩)), (3, .pointer (some ⟨b1, 0, none⟩)), (35, uv), (36, .int .i64 (X.length : Int)), (37, .int .i64 0)] fun TA => ?_
   refine W.block ?_
   refine W.loop (fun mm ta σ => ∃ (j : Nat), (mm + j = X.length) ∧ Lies G A F σ (.at_ b1 (.row ⟨[uv, .int .i64 pos, .bool fd], 96, false⟩) :: .at_ q (.row ⟨[.slice (some ⟨bc, 0, none⟩) wd wd, .slice (some ⟨bp, 0, none⟩) wd wd, .int .i64 pos, .int .i64 0, .bool s.co, .int .i64 ((s.n + j : Nat) : Int)], 99, false⟩) :: .at_ bc (.row ⟨cC (overC s.C s.n (X.take j)), 79, false⟩) :: .at_ bp (.row ⟨(overC s.P s.n (List.replicate j pos)).map (Value.int .i64), 3, false⟩) :: (L)) ∧ ta 0 = .pointer (some ⟨q, 0, none⟩) ∧ ta 3 = .pointer (some ⟨b1, 0, none⟩) ∧ ta 35 = uv ∧ ta 36 = .int .i64 (X.length : Int) ∧ ta 37 = .int .i64 ((j : Nat) : Int)) X.length ?_ ?_
   ·exact ⟨0, (by omega), (by rw [List.take_zero, show List.replicate 0 pos = [] from rfl, overC_nil, overC_nil]; exact H), rfl, rfl, rfl, rfl, rfl⟩
   clear H
   rintro mm ta _ ⟨j, hm, H, e0, e3, e35, e36, e37⟩
   refine W.rst [(0, .pointer (some ⟨q, 0, none⟩)), (3, .pointer (some ⟨b1, 0, none⟩)), (35, uv), (36, .int .i64 (X.length : Int)), (37, .int .i64 ((j : Nat) : Int))] ⟨e0, e3, e35, e36, e37, trivial⟩ fun TA => ?_
   clear e0 e3 e35 e36 e37
   have htj : (X.take j).length = j := by rw [List.length_take]; omega
   have hC2 : (overC s.C s.n (X.take j)).length = wd := by rw [overC_len (by omega)]; exact hCl
   have hP2 : (overC s.P s.n (List.replicate j pos)).length = wd := by rw [overC_len (by rw [List.length_replicate]; omega)]; exact hPl
   refine W.seq (W.region ?_)
   refine RW.v ?_
   refine RW.nil ?_
   refine W.rg [(0, .pointer (some ⟨q, 0, none⟩)), (3, .pointer (some ⟨b1, 0, none⟩)), (35, uv), (36, .int .i64 (X.length : Int)), (37, .int .i64 ((j : Nat) : Int)), (38, .bool (decide (((j : Nat) : Int) < (X.length : Int))))] fun TA => ?_
   refine W.seq ?_
   refine W.cond rfl (fun hc5 => ?_) (fun hc5 => ?_)
   ·have hc5b := hc5
    have hc5 := of_decide_eq_true hc5
    refine W.skip ?_
    refine W.seq ?_
    refine W.block ?_
    refine W.seq (W.region ?_)
    refine RW.idxF hX (by kernel_rfl) (by kernel_rfl) rfl Tryd.underlying36 (by kernel_rfl) rfl rfl ⟨by omega, by omega⟩ (by kernel_rfl) ?_
    intro b6 q7 r8 hF9 hE10
    rw [cC_ati (l := X) (j := j) (by omega)] at hE10
    refine RW.loads 6 (by kernel_rfl) (by kernel_rfl) rfl rfl (H.old _ _ hF9) hE10 rfl (by kernel_rfl) ?_
    refine RW.mk H (.row ⟨[.int .i64 0, .int .i64 0, .int .i64 0, .bool false, .bool false, .bool false], 79, false⟩) ?_
    clear H; intro _ b11 _ H
    refine RW.st H 0 [.int .i64 ((X.getD j default).a), .int .i64 ((X.getD j default).b), .int .i64 ((X.getD j default).c), .bool ((X.getD j default).d), .bool ((X.getD j default).e), .bool ((X.getD j default).f)] [.int .i64 ((X.getD j default).a), .int .i64 ((X.getD j default).b), .int .i64 ((X.getD j default).c), .bool ((X.getD j default).d), .bool ((X.getD j default).e), .bool ((X.getD j default).f)] ?_
    clear H; intro _ _ H; dsimp only [setL, delL] at H
    refine RW.nil ?_
    refine W.rg [(0, .pointer (some ⟨q, 0, none⟩)), (3, .pointer (some ⟨b1, 0, none⟩)), (6, .pointer (some ⟨b11, 0, none⟩)), (35, uv), (36, .int .i64 (X.length : Int)), (37, .int .i64 ((j : Nat) : Int))] fun TA => ?_
    refine W.seq ?_
    refine W.drawn (by kernel_rfl) (by kernel_rfl) H.gn ?_
    have H12 := H
    iterate 4 refine RW.v ?_
    refine RW.ld H12 2 1 ?_
    iterate 3 refine RW.v ?_
    refine RW.ld H12 2 1 ?_
    iterate 4 refine RW.v ?_
    refine RW.ld H12 2 1 ?_
    iterate 3 refine RW.v ?_
    refine RW.ld H12 2 1 ?_
    refine RW.ld H12 0 6 ?_
    refine RW.v ?_
    refine RW.ld H12 1 1 ?_
    refine RW.idxE (s := 6) (by kernel_rfl) (by kernel_rfl) rfl Tryd.underlying36 (by kernel_rfl) rfl rfl ⟨by omega, by omega⟩ (by kernel_rfl) ?_
    intro q13 q13e
    refine RW.stE H12 3 rfl (vs := [.int .i64 ((X.getD j default).a), .int .i64 ((X.getD j default).b), .int .i64 ((X.getD j default).c), .bool ((X.getD j default).d), .bool ((X.getD j default).e), .bool ((X.getD j default).f)]) (by rw [cC_len, hC2, q13e]; simp; omega) (by kernel_rfl) (by kernel_rfl) rfl rfl rfl rfl (by kernel_rfl) (by kernel_rfl) ?_
    intro _ H14
    dsimp only [setL, delL] at H14
    replace H14 : Lies G A F _ (.at_ b11 (.row ⟨[.int .i64 ((X.getD j default).a), .int .i64 ((X.getD j default).b), .int .i64 ((X.getD j default).c), .bool ((X.getD j default).d), .bool ((X.getD j default).e), .bool ((X.getD j default).f)], 79, false⟩) :: .at_ b1 (.row ⟨[uv, .int .i64 pos, .bool fd], 96, false⟩) :: .at_ q (.row ⟨[.slice (some ⟨bc, 0, none⟩) wd wd, .slice (some ⟨bp, 0, none⟩) wd wd, .int .i64 pos, .int .i64 0, .bool s.co, .int .i64 ((s.n + j : Nat) : Int)], 99, false⟩) :: .at_ bc (.row ⟨overL (cC (overC s.C s.n (X.take j))) q13 [.int .i64 ((X.getD j default).a), .int .i64 ((X.getD j default).b), .int .i64 ((X.getD j default).c), .bool ((X.getD j default).d), .bool ((X.getD j default).e), .bool ((X.getD j default).f)], 79, false⟩) :: .at_ bp (.row ⟨(overC s.P s.n (List.replicate j pos)).map (Value.int .i64), 3, false⟩) :: (L)) := H14
    rw [show overL (cC (overC s.C s.n (X.take j))) q13 [.int .i64 ((X.getD j default).a), .int .i64 ((X.getD j default).b), .int .i64 ((X.getD j default).c), .bool ((X.getD j default).d), .bool ((X.getD j default).e), .bool ((X.getD j default).f)] = cC (overC s.C s.n (X.take (j + 1))) by rw [q13e]; exact put_cells (by omega) (by omega)] at H14
    refine RW.idxE (s := 1) (by kernel_rfl) (by kernel_rfl) rfl Tryd.underlying37 (by kernel_rfl) rfl rfl ⟨by omega, by omega⟩ (by kernel_rfl) ?_
    intro q15 q15e
    refine RW.stE H14 4 rfl (vs := [.int .i64 pos]) (by rw [List.length_map, hP2, q15e]; simp; omega) (by kernel_rfl) (by kernel_rfl) rfl rfl rfl rfl (by kernel_rfl) (by kernel_rfl) ?_
    intro _ H16
    dsimp only [setL, delL] at H16
    replace H16 : Lies G A F _ (.at_ b11 (.row ⟨[.int .i64 ((X.getD j default).a), .int .i64 ((X.getD j default).b), .int .i64 ((X.getD j default).c), .bool ((X.getD j default).d), .bool ((X.getD j default).e), .bool ((X.getD j default).f)], 79, false⟩) :: .at_ b1 (.row ⟨[uv, .int .i64 pos, .bool fd], 96, false⟩) :: .at_ q (.row ⟨[.slice (some ⟨bc, 0, none⟩) wd wd, .slice (some ⟨bp, 0, none⟩) wd wd, .int .i64 pos, .int .i64 0, .bool s.co, .int .i64 ((s.n + j : Nat) : Int)], 99, false⟩) :: .at_ bc (.row ⟨cC (overC s.C s.n (X.take (j + 1))), 79, false⟩) :: .at_ bp (.row ⟨overL ((overC s.P s.n (List.replicate j pos)).map (Value.int .i64)) q15 [.int .i64 pos], 3, false⟩) :: (L)) := H16
    rw [show overL ((overC s.P s.n (List.replicate j pos)).map (Value.int .i64)) q15 [.int .i64 pos] = (overC s.P s.n (List.replicate (j + 1) pos)).map (Value.int .i64) by rw [q15e]; exact put_poss (by omega)] at H16
    refine RW.nil ?_
    refine ⟨⟨by kernel_rfl, ⟨trivial, trivial, trivial, trivial, dyn_row (H12.get 2 rfl) (H16.get 2 rfl) ⟨nB, nB, nB, nB, nB, nB, nB, nB, nB, nB, nB, nB, nB, nB, nB, nB, nB, nB, nB, nB, nB, nB, fun _ => H12.get 2 rfl, nB, fun _ => H14.get 2 rfl, trivial⟩, trivial, trivial, trivial, dyn_row (H12.get 2 rfl) (H16.get 2 rfl) ⟨nB, nB, nB, nB, nB, nB, nB, nB, nB, nB, nB, nB, nB, nB, nB, nB, nB, nB, nB, nB, nB, nB, fun _ => H12.get 2 rfl, nB, fun _ => H14.get 2 rfl, trivial⟩, trivial, trivial, trivial, trivial, dyn_row (H12.get 2 rfl) (H16.get 2 rfl) ⟨nB, nB, nB, nB, nB, nB, nB, nB, nB, nB, nB, nB, nB, nB, nB, nB, nB, nB, nB, nB, nB, nB, fun _ => H12.get 2 rfl, nB, fun _ => H14.get 2 rfl, trivial⟩, trivial, trivial, trivial, dyn_row (H12.get 2 rfl) (H16.get 2 rfl) ⟨nB, nB, nB, nB, nB, nB, nB, nB, nB, nB, nB, nB, nB, nB, nB, nB, nB, nB, nB, nB, nB, nB, fun _ => H12.get 2 rfl, nB, fun _ => H14.get 2 rfl, trivial⟩, dyn_row (H12.get 0 rfl) (H16.get 0 rfl) ⟨nB, nB, nB, nB, nB, nB, nB, nB, nB, nB, nB, nB, nB, nB, nB, nB, nB, nB, nB, nB, nB, nB, fun _ => H12.get 0 rfl, nB, fun _ => H14.get 0 rfl, trivial⟩, trivial, dyn_row (H12.get 1 rfl) (H16.get 1 rfl) ⟨nB, nB, nB, nB, nB, nB, nB, nB, nB, nB, nB, nB, nB, nB, nB, nB, nB, nB, nB, nB, nB, nB, fun _ => H12.get 1 rfl, nB, fun _ => H14.get 1 rfl, trivial⟩, trivial, trivial, trivial, trivial, trivial⟩⟩, ?_⟩
    replace H := H16
    clear H12 H14 H16
    replace H := (H.del 0)
    dsimp only [setL, delL] at H
    refine W.rg [(0, .pointer (some ⟨q, 0, none⟩)), (3, .pointer (some ⟨b1, 0, none⟩)), (35, uv), (36, .int .i64 (X.length : Int)), (37, .int .i64 ((j : Nat) : Int))] fun TA => ?_
    refine W.region ?_
    iterate 3 refine RW.v ?_
    refine RW.ld H 1 1 ?_
    refine RW.valE (v' := .int .i64 (((s.n + j : Nat) : Int) + 1)) (by kernel_rfl) (by kernel_rfl) rfl (congrArg (Value.int .i64) (wrap_in (by omega) (by omega))) (by kernel_rfl) ?_
    iterate 2 refine RW.v ?_
    refine RW.st H 1 [.int .i64 (((s.n + j : Nat) : Int) + 1)] [.slice (some ⟨bc, 0, none⟩) wd wd, .slice (some ⟨bp, 0, none⟩) wd wd, .int .i64 pos, .int .i64 0, .bool s.co, .int .i64 (((s.n + j : Nat) : Int) + 1)] ?_
    clear H; intro _ _ H; dsimp only [setL, delL] at H
    refine RW.nil ?_
    refine blkQ_normal ?_
    refine W.rg [(0, .pointer (some ⟨q, 0, none⟩)), (3, .pointer (some ⟨b1, 0, none⟩)), (35, uv), (36, .int .i64 (X.length : Int)), (37, .int .i64 ((j : Nat) : Int))] fun TA => ?_
    refine W.region ?_
    refine RW.valE (v' := .int .i64 (((j : Nat) : Int) + 1)) (by kernel_rfl) (by kernel_rfl) rfl (congrArg (Value.int .i64) (wrap_in (by omega) (by omega))) (by kernel_rfl) ?_
    refine RW.v ?_
    refine RW.nil ?_
    rw [show ((s.n + j : Nat) : Int) + 1 = ((s.n + (j + 1) : Nat) : Int) by omega] at H
    exact ⟨rfl, mm - 1, by omega, j + 1, (by omega), H, rfl, rfl, rfl, rfl, rfl⟩
   ·have hc5b := hc5
    have hc5 := of_decide_eq_false hc5
    refine W.exit _ ?_
    refine seqQ_exit ?_
    refine rndQ_exit ?_
    have hj : j = X.length := by omega
    subst hj
    rw [List.take_length] at H
    refine blkQ_here ?_
    refine W.seq (W.region ?_)
    refine RW.v ?_
    refine RW.nil ?_
    replace H := (H.del 0)
    dsimp only [setL, delL] at H
    refine W.ret ?_
    refine endG (by rfl) (by exact resL_tmp rfl) ?_
    have ep : putF wd s X pos = (⟨overC s.C s.n X, overC s.P s.n (List.replicate X.length pos), s.n + X.length, pos, s.co⟩, true) := by unfold putF; rw [if_neg (by omega), if_pos (by omega)]
    rw [ep]
    exact ⟨rfl, H⟩
  ·have hc4b := hc4
   have hc4 := ne_of_beq_false hc4
   refine W.skip ?_
   refine W.seq ?_
   refine W.seq (W.region ?_)
   refine RW.v ?_
   refine RW.ld H 0 1 ?_
   refine RW.len (by kernel_rfl) (by kernel_rfl) rfl rfl rfl rfl (hX.len (e := 79) (by kernel_rfl)) (by kernel_rfl) ?_
   refine RW.v ?_
   refine RW.nil ?_
   refine W.rg [(0, .pointer (some ⟨q, 0, none⟩)), (3, .pointer (some ⟨b1, 0, none⟩)), (35, uv), (36, .int .i64 (X.length : Int)), (37, .int .i64 0)] fun TA => ?_
   refine W.block ?_
   refine W.loop (fun mm ta σ => ∃ (j : Nat), (mm + j = X.length) ∧ Lies G A F σ (.at_ b1 (.row ⟨[uv, .int .i64 pos, .bool fd], 96, false⟩) :: .at_ q (.row ⟨[.slice (some ⟨bc, 0, none⟩) wd wd, .slice (some ⟨bp, 0, none⟩) wd wd, .int .i64 s.fr, .int .i64 0, .bool s.co, .int .i64 ((s.n + j : Nat) : Int)], 99, false⟩) :: .at_ bc (.row ⟨cC (overC s.C s.n (X.take j)), 79, false⟩) :: .at_ bp (.row ⟨(overC s.P s.n (List.replicate j pos)).map (Value.int .i64), 3, false⟩) :: (L)) ∧ ta 0 = .pointer (some ⟨q, 0, none⟩) ∧ ta 3 = .pointer (some ⟨b1, 0, none⟩) ∧ ta 35 = uv ∧ ta 36 = .int .i64 (X.length : Int) ∧ ta 37 = .int .i64 ((j : Nat) : Int)) X.length ?_ ?_
   ·exact ⟨0, (by omega), (by rw [List.take_zero, show List.replicate 0 pos = [] from rfl, overC_nil, overC_nil]; exact H), rfl, rfl, rfl, rfl, rfl⟩
   clear H
   rintro mm ta _ ⟨j, hm, H, e0, e3, e35, e36, e37⟩
   refine W.rst [(0, .pointer (some ⟨q, 0, none⟩)), (3, .pointer (some ⟨b1, 0, none⟩)), (35, uv), (36, .int .i64 (X.length : Int)), (37, .int .i64 ((j : Nat) : Int))] ⟨e0, e3, e35, e36, e37, trivial⟩ fun TA => ?_
   clear e0 e3 e35 e36 e37
   have htj : (X.take j).length = j := by rw [List.length_take]; omega
   have hC2 : (overC s.C s.n (X.take j)).length = wd := by rw [overC_len (by omega)]; exact hCl
   have hP2 : (overC s.P s.n (List.replicate j pos)).length = wd := by rw [overC_len (by rw [List.length_replicate]; omega)]; exact hPl
   refine W.seq (W.region ?_)
   refine RW.v ?_
   refine RW.nil ?_
   refine W.rg [(0, .pointer (some ⟨q, 0, none⟩)), (3, .pointer (some ⟨b1, 0, none⟩)), (35, uv), (36, .int .i64 (X.length : Int)), (37, .int .i64 ((j : Nat) : Int)), (38, .bool (decide (((j : Nat) : Int) < (X.length : Int))))] fun TA => ?_
   refine W.seq ?_
   refine W.cond rfl (fun hc17 => ?_) (fun hc17 => ?_)
   ·have hc17b := hc17
    have hc17 := of_decide_eq_true hc17
    refine W.skip ?_
    refine W.seq ?_
    refine W.block ?_
    refine W.seq (W.region ?_)
    refine RW.idxF hX (by kernel_rfl) (by kernel_rfl) rfl Tryd.underlying36 (by kernel_rfl) rfl rfl ⟨by omega, by omega⟩ (by kernel_rfl) ?_
    intro b18 q19 r20 hF21 hE22
    rw [cC_ati (l := X) (j := j) (by omega)] at hE22
    refine RW.loads 6 (by kernel_rfl) (by kernel_rfl) rfl rfl (H.old _ _ hF21) hE22 rfl (by kernel_rfl) ?_
    refine RW.mk H (.row ⟨[.int .i64 0, .int .i64 0, .int .i64 0, .bool false, .bool false, .bool false], 79, false⟩) ?_
    clear H; intro _ b23 _ H
    refine RW.st H 0 [.int .i64 ((X.getD j default).a), .int .i64 ((X.getD j default).b), .int .i64 ((X.getD j default).c), .bool ((X.getD j default).d), .bool ((X.getD j default).e), .bool ((X.getD j default).f)] [.int .i64 ((X.getD j default).a), .int .i64 ((X.getD j default).b), .int .i64 ((X.getD j default).c), .bool ((X.getD j default).d), .bool ((X.getD j default).e), .bool ((X.getD j default).f)] ?_
    clear H; intro _ _ H; dsimp only [setL, delL] at H
    refine RW.nil ?_
    refine W.rg [(0, .pointer (some ⟨q, 0, none⟩)), (3, .pointer (some ⟨b1, 0, none⟩)), (6, .pointer (some ⟨b23, 0, none⟩)), (35, uv), (36, .int .i64 (X.length : Int)), (37, .int .i64 ((j : Nat) : Int))] fun TA => ?_
    refine W.seq ?_
    refine W.drawn (by kernel_rfl) (by kernel_rfl) H.gn ?_
    have H24 := H
    iterate 4 refine RW.v ?_
    refine RW.ld H24 2 1 ?_
    iterate 3 refine RW.v ?_
    refine RW.ld H24 2 1 ?_
    iterate 4 refine RW.v ?_
    refine RW.ld H24 2 1 ?_
    iterate 3 refine RW.v ?_
    refine RW.ld H24 2 1 ?_
    refine RW.ld H24 0 6 ?_
    refine RW.v ?_
    refine RW.ld H24 1 1 ?_
    refine RW.idxE (s := 6) (by kernel_rfl) (by kernel_rfl) rfl Tryd.underlying36 (by kernel_rfl) rfl rfl ⟨by omega, by omega⟩ (by kernel_rfl) ?_
    intro q25 q25e
    refine RW.stE H24 3 rfl (vs := [.int .i64 ((X.getD j default).a), .int .i64 ((X.getD j default).b), .int .i64 ((X.getD j default).c), .bool ((X.getD j default).d), .bool ((X.getD j default).e), .bool ((X.getD j default).f)]) (by rw [cC_len, hC2, q25e]; simp; omega) (by kernel_rfl) (by kernel_rfl) rfl rfl rfl rfl (by kernel_rfl) (by kernel_rfl) ?_
    intro _ H26
    dsimp only [setL, delL] at H26
    replace H26 : Lies G A F _ (.at_ b23 (.row ⟨[.int .i64 ((X.getD j default).a), .int .i64 ((X.getD j default).b), .int .i64 ((X.getD j default).c), .bool ((X.getD j default).d), .bool ((X.getD j default).e), .bool ((X.getD j default).f)], 79, false⟩) :: .at_ b1 (.row ⟨[uv, .int .i64 pos, .bool fd], 96, false⟩) :: .at_ q (.row ⟨[.slice (some ⟨bc, 0, none⟩) wd wd, .slice (some ⟨bp, 0, none⟩) wd wd, .int .i64 s.fr, .int .i64 0, .bool s.co, .int .i64 ((s.n + j : Nat) : Int)], 99, false⟩) :: .at_ bc (.row ⟨overL (cC (overC s.C s.n (X.take j))) q25 [.int .i64 ((X.getD j default).a), .int .i64 ((X.getD j default).b), .int .i64 ((X.getD j default).c), .bool ((X.getD j default).d), .bool ((X.getD j default).e), .bool ((X.getD j default).f)], 79, false⟩) :: .at_ bp (.row ⟨(overC s.P s.n (List.replicate j pos)).map (Value.int .i64), 3, false⟩) :: (L)) := H26
    rw [show overL (cC (overC s.C s.n (X.take j))) q25 [.int .i64 ((X.getD j default).a), .int .i64 ((X.getD j default).b), .int .i64 ((X.getD j default).c), .bool ((X.getD j default).d), .bool ((X.getD j default).e), .bool ((X.getD j default).f)] = cC (overC s.C s.n (X.take (j + 1))) by rw [q25e]; exact put_cells (by omega) (by omega)] at H26
    refine RW.idxE (s := 1) (by kernel_rfl) (by kernel_rfl) rfl Tryd.underlying37 (by kernel_rfl) rfl rfl ⟨by omega, by omega⟩ (by kernel_rfl) ?_
    intro q27 q27e
    refine RW.stE H26 4 rfl (vs := [.int .i64 pos]) (by rw [List.length_map, hP2, q27e]; simp; omega) (by kernel_rfl) (by kernel_rfl) rfl rfl rfl rfl (by kernel_rfl) (by kernel_rfl) ?_
    intro _ H28
    dsimp only [setL, delL] at H28
    replace H28 : Lies G A F _ (.at_ b23 (.row ⟨[.int .i64 ((X.getD j default).a), .int .i64 ((X.getD j default).b), .int .i64 ((X.getD j default).c), .bool ((X.getD j default).d), .bool ((X.getD j default).e), .bool ((X.getD j default).f)], 79, false⟩) :: .at_ b1 (.row ⟨[uv, .int .i64 pos, .bool fd], 96, false⟩) :: .at_ q (.row ⟨[.slice (some ⟨bc, 0, none⟩) wd wd, .slice (some ⟨bp, 0, none⟩) wd wd, .int .i64 s.fr, .int .i64 0, .bool s.co, .int .i64 ((s.n + j : Nat) : Int)], 99, false⟩) :: .at_ bc (.row ⟨cC (overC s.C s.n (X.take (j + 1))), 79, false⟩) :: .at_ bp (.row ⟨overL ((overC s.P s.n (List.replicate j pos)).map (Value.int .i64)) q27 [.int .i64 pos], 3, false⟩) :: (L)) := H28
    rw [show overL ((overC s.P s.n (List.replicate j pos)).map (Value.int .i64)) q27 [.int .i64 pos] = (overC s.P s.n (List.replicate (j + 1) pos)).map (Value.int .i64) by rw [q27e]; exact put_poss (by omega)] at H28
    refine RW.nil ?_
    refine ⟨⟨by kernel_rfl, ⟨trivial, trivial, trivial, trivial, dyn_row (H24.get 2 rfl) (H28.get 2 rfl) ⟨nB, nB, nB, nB, nB, nB, nB, nB, nB, nB, nB, nB, nB, nB, nB, nB, nB, nB, nB, nB, nB, nB, fun _ => H24.get 2 rfl, nB, fun _ => H26.get 2 rfl, trivial⟩, trivial, trivial, trivial, dyn_row (H24.get 2 rfl) (H28.get 2 rfl) ⟨nB, nB, nB, nB, nB, nB, nB, nB, nB, nB, nB, nB, nB, nB, nB, nB, nB, nB, nB, nB, nB, nB, fun _ => H24.get 2 rfl, nB, fun _ => H26.get 2 rfl, trivial⟩, trivial, trivial, trivial, trivial, dyn_row (H24.get 2 rfl) (H28.get 2 rfl) ⟨nB, nB, nB, nB, nB, nB, nB, nB, nB, nB, nB, nB, nB, nB, nB, nB, nB, nB, nB, nB, nB, nB, fun _ => H24.get 2 rfl, nB, fun _ => H26.get 2 rfl, trivial⟩, trivial, trivial, trivial, dyn_row (H24.get 2 rfl) (H28.get 2 rfl) ⟨nB, nB, nB, nB, nB, nB, nB, nB, nB, nB, nB, nB, nB, nB, nB, nB, nB, nB, nB, nB, nB, nB, fun _ => H24.get 2 rfl, nB, fun _ => H26.get 2 rfl, trivial⟩, dyn_row (H24.get 0 rfl) (H28.get 0 rfl) ⟨nB, nB, nB, nB, nB, nB, nB, nB, nB, nB, nB, nB, nB, nB, nB, nB, nB, nB, nB, nB, nB, nB, fun _ => H24.get 0 rfl, nB, fun _ => H26.get 0 rfl, trivial⟩, trivial, dyn_row (H24.get 1 rfl) (H28.get 1 rfl) ⟨nB, nB, nB, nB, nB, nB, nB, nB, nB, nB, nB, nB, nB, nB, nB, nB, nB, nB, nB, nB, nB, nB, fun _ => H24.get 1 rfl, nB, fun _ => H26.get 1 rfl, trivial⟩, trivial, trivial, trivial, trivial, trivial⟩⟩, ?_⟩
    replace H := H28
    clear H24 H26 H28
    replace H := (H.del 0)
    dsimp only [setL, delL] at H
    refine W.rg [(0, .pointer (some ⟨q, 0, none⟩)), (3, .pointer (some ⟨b1, 0, none⟩)), (35, uv), (36, .int .i64 (X.length : Int)), (37, .int .i64 ((j : Nat) : Int))] fun TA => ?_
    refine W.region ?_
    iterate 3 refine RW.v ?_
    refine RW.ld H 1 1 ?_
    refine RW.valE (v' := .int .i64 (((s.n + j : Nat) : Int) + 1)) (by kernel_rfl) (by kernel_rfl) rfl (congrArg (Value.int .i64) (wrap_in (by omega) (by omega))) (by kernel_rfl) ?_
    iterate 2 refine RW.v ?_
    refine RW.st H 1 [.int .i64 (((s.n + j : Nat) : Int) + 1)] [.slice (some ⟨bc, 0, none⟩) wd wd, .slice (some ⟨bp, 0, none⟩) wd wd, .int .i64 s.fr, .int .i64 0, .bool s.co, .int .i64 (((s.n + j : Nat) : Int) + 1)] ?_
    clear H; intro _ _ H; dsimp only [setL, delL] at H
    refine RW.nil ?_
    refine blkQ_normal ?_
    refine W.rg [(0, .pointer (some ⟨q, 0, none⟩)), (3, .pointer (some ⟨b1, 0, none⟩)), (35, uv), (36, .int .i64 (X.length : Int)), (37, .int .i64 ((j : Nat) : Int))] fun TA => ?_
    refine W.region ?_
    refine RW.valE (v' := .int .i64 (((j : Nat) : Int) + 1)) (by kernel_rfl) (by kernel_rfl) rfl (congrArg (Value.int .i64) (wrap_in (by omega) (by omega))) (by kernel_rfl) ?_
    refine RW.v ?_
    refine RW.nil ?_
    rw [show ((s.n + j : Nat) : Int) + 1 = ((s.n + (j + 1) : Nat) : Int) by omega] at H
    exact ⟨rfl, mm - 1, by omega, j + 1, (by omega), H, rfl, rfl, rfl, rfl, rfl⟩
   ·have hc17b := hc17
    have hc17 := of_decide_eq_false hc17
    refine W.exit _ ?_
    refine seqQ_exit ?_
    refine rndQ_exit ?_
    have hj : j = X.length := by omega
    subst hj
    rw [List.take_length] at H
    refine blkQ_here ?_
    refine W.seq (W.region ?_)
    refine RW.v ?_
    refine RW.nil ?_
    replace H := (H.del 0)
    dsimp only [setL, delL] at H
    refine W.ret ?_
    refine endG (by rfl) (by exact resL_tmp rfl) ?_
    have ep : putF wd s X pos = (⟨overC s.C s.n X, overC s.P s.n (List.replicate X.length pos), s.n + X.length, s.fr, s.co⟩, true) := by unfold putF; rw [if_neg (by omega), if_neg (by omega)]
    rw [ep]
    exact ⟨rfl, H⟩
end
end Go.Proofs.YtmmapljeeccdnaaDoor
namespace Go.Proofs.YtmmapljeeccdnaaDoor
set_option maxRecDepth 100000
open Go.Lib Go.RowKit
def checkP (x : Prt) (fr to_ at_ : Int) : Int :=
 if validD x.s = false then 5 else if x.k < 0 ∨ 2 < x.k then 5
 else if x.p < fr ∨ x.t < x.p ∨ to_ < x.t then 3
 else if x.k = 0 ∧ x.t - x.p ≠ (((runes x.s).length : Nat) : Int) then 5
 else if x.k = 2 ∧ x.t ≠ x.p then 5
 else if x.p < at_ then 19 else 0
def checkL (fr to_ : Int) : Int → List Prt → Int
 | _, [] => 0
 | at_, x :: l => if checkP x fr to_ at_ = 0 then checkL fr to_ x.t l else checkP x fr to_ at_
def checkM (l : List Prt) (fr to_ : Int) : Int := if fr < 1 ∨ to_ < fr ∨ 65537 < to_ then 3 else checkL fr to_ fr l
theorem drop_get {α : Type} [Inhabited α] {l : List α} {i : Nat} (h : i < l.length) : l.drop i = l.getD i default :: l.drop (i + 1) := by
 rw [List.drop_eq_getElem_cons h, List.getD_eq_getElem?_getD, List.getElem?_eq_getElem h]
 rfl
theorem checkL_go {fr to_ z : Int} {l : List Prt} {i : Nat} (h : i < l.length) (h0 : checkP (l.getD i default) fr to_ z = 0) : checkL fr to_ z (l.drop i) = checkL fr to_ (l.getD i default).t (l.drop (i + 1)) := by
 rw [drop_get h]
 show (if _ then _ else _) = _
 rw [if_pos h0]
theorem checkL_stop {fr to_ z : Int} {l : List Prt} {i : Nat} (h : i < l.length) (h0 : checkP (l.getD i default) fr to_ z ≠ 0) : checkL fr to_ z (l.drop i) = checkP (l.getD i default) fr to_ z := by
 rw [drop_get h]
 show (if _ then _ else _) = _
 rw [if_neg h0]
def ctlI (c : Int) : Int := iXor .i64 c 64
def cellsM (c : Int) (x : Prt) : List Cel :=
 if c < 32 ∨ c = 127 then [⟨94, x.b, x.c, x.d, x.e, x.f⟩, ⟨ctlI c, x.b, x.c, x.d, x.e, x.f⟩]
 else if widthOf c = 0 then []
 else if widthOf c = 2 then [⟨c, x.b, x.c, x.d, x.e, x.f⟩, ⟨-1, x.b, x.c, x.d, x.e, x.f⟩]
 else [⟨c, x.b, x.c, x.d, x.e, x.f⟩]
theorem pC_ati {l : List Prt} {j : Nat} (h : j < l.length) : ((pC l).drop ((((j : Nat) : Int)).toNat * 9)).take 9 = [.int .i64 ((l.getD j default).k), .int .i64 ((l.getD j default).p), .int .i64 ((l.getD j default).t), .string ⟨((l.getD j default).s).toArray⟩, .int .i64 ((l.getD j default).b), .int .i64 ((l.getD j default).c), .bool ((l.getD j default).d), .bool ((l.getD j default).e), .bool ((l.getD j default).f)] := by
 rw [Int.toNat_natCast]
 exact pC_at h
section
variable {G : Nat} {A : Abs} {σ : Mem} {F : Nat → Option Blk2} {L : List Ent} {x : Prt} {fr to_ at_ : Int}
theorem s_valid {bs : List UInt8} (hU : U8F σ.get) (h16 : 16 ≤ G) (hs : bs.length ≤ 1000000) : SCall G Tryd.prog 61 #[.string ⟨bs.toArray⟩] σ (.bool (validD bs)) σ :=
 below_callT hU.rows h16 rfl rfl fun w hT => by
  have e : (⟨bs.toArray⟩ : ByteArray).data.toList = bs := by simp
  cases hv : validD bs with
  | true => exact valid_yes ⟨bs.toArray⟩ w (by show bs.length ≤ _; omega) hT (by rw [e]; exact hv)
  | false => exact valid_no ⟨bs.toArray⟩ w (by show bs.length ≤ _; omega) hT (by rw [e]; exact hv)
theorem s_count {bs : List UInt8} (hs : bs.length ≤ 1000000) : SCall G Tryd.prog 60 #[.string ⟨bs.toArray⟩] σ (.int .i64 (((runes bs).length : Nat) : Int)) σ :=
 below_call rfl rfl fun w => by
  have := Tryd.utf8_RuneCountInString ⟨bs.toArray⟩ w (by show bs.length < _; omega)
  rw [runeCount_eq] at this
  refine this.mono ?_
  rintro e w' ⟨rfl, pos, rfl⟩
  exact ⟨by simp, below_iter _ _ _⟩
theorem s_width (c : Int) : SCall G Tryd.prog 75 #[.int .i64 c] σ (.int .i64 (widthOf c)) σ :=
 below_call rfl rfl fun w => width_any c w
set_option maxHeartbeats 4000000 in
theorem check_wc (hfr : 1 ≤ fr) (hto : to_ ≤ 65537) (hU : U8F F) (h16 : 16 ≤ G) (hs : x.s.length ≤ 1000000) (H : Lies G A F σ L) : WC G Tryd.prog 40 #[.agg #[.int .i64 x.k, .int .i64 x.p, .int .i64 x.t, .string ⟨x.s.toArray⟩, .int .i64 x.b, .int .i64 x.c, .bool x.d, .bool x.e, .bool x.f], .int .i64 fr, .int .i64 to_, .int .i64 at_] σ fun v σ' => v = .int .i64 (checkP x fr to_ at_) ∧ Lies G A F σ' L := by
 have hrl := runes_le x.s
 refine WC.enter (fn := Tryd.f40) Tryd.func40 rfl ?_
 refine W.rg [(0, .agg #[.int .i64 x.k, .int .i64 x.p, .int .i64 x.t, .string ⟨x.s.toArray⟩, .int .i64 x.b, .int .i64 x.c, .bool x.d, .bool x.e, .bool x.f]), (1, .int .i64 fr), (2, .int .i64 to_), (3, .int .i64 at_)] fun TA => ?_
 refine W.seq (W.region ?_)
 refine RW.mk H (.row ⟨[.int .i64 x.k, .int .i64 x.p, .int .i64 x.t, .string ⟨x.s.toArray⟩, .int .i64 x.b, .int .i64 x.c, .bool x.d, .bool x.e, .bool x.f], 52, false⟩) ?_
 clear H; intro _ b1 _ H
 refine RW.v ?_
 refine RW.nil ?_
 refine W.rg [(1, .int .i64 fr), (2, .int .i64 to_), (3, .int .i64 at_), (4, .pointer (some ⟨b1, 0, none⟩))] fun TA => ?_
 refine W.seq (W.region ?_)
 refine RW.v ?_
 refine RW.ld H 0 1 ?_
 refine RW.cl ?_
 refine ⟨_, _, (s_count (hs)), ?_⟩
 refine RW.v ?_
 refine RW.nil ?_
 refine W.rg [(1, .int .i64 fr), (2, .int .i64 to_), (3, .int .i64 at_), (4, .pointer (some ⟨b1, 0, none⟩)), (9, .int .i64 (((runes x.s).length : Nat) : Int))] fun TA => ?_
 refine W.seq ?_
 refine W.block ?_
 refine W.seq (W.region ?_)
 refine RW.v ?_
 refine RW.ld H 0 1 ?_
 iterate 2 refine RW.v ?_
 refine RW.both _ _ rfl rfl rfl (fun hc2 => ?_) (fun hc2 => ?_)
 ·have hc2b := hc2
  have hc2 := of_decide_eq_true hc2
  iterate 3 refine RW.s ?_
  iterate 2 refine RW.v ?_
  iterate 4 refine RW.s ?_
  iterate 2 refine RW.v ?_
  refine RW.nil ?_
  refine W.c1 ?_
  refine W.seq (W.region ?_)
  refine RW.v ?_
  refine RW.nil ?_
  replace H := (H.del 0)
  dsimp only [setL, delL] at H
  refine W.ret ?_
  refine blkQ_ret ?_
  refine seqQ_ret ?_
  refine endG (by rfl) (by exact resL_tmp rfl) ?_
  refine ⟨?_, H⟩
  have ec : checkP x fr to_ at_ = 5 := by unfold checkP; (repeat' split) <;> first | rfl | (exfalso; omega) | (exfalso; simp_all)
  exact Eq.trans rfl (congrArg (Value.int .i64) ec.symm)
 ·have hc2b := hc2
  have hc2 := of_decide_eq_false hc2
  refine RW.w ?_
  refine RW.ldL H 0 1 (by rfl) (by kernel_rfl) rfl rfl rfl rfl rfl (by kernel_rfl) ?_
  refine RW.w ?_
  iterate 2 refine RW.v ?_
  refine RW.both _ _ rfl rfl rfl (fun hc3 => ?_) (fun hc3 => ?_)
  ·have hc3b := hc3
   have hc3 := of_decide_eq_true hc3
   iterate 4 refine RW.s ?_
   iterate 2 refine RW.v ?_
   refine RW.nil ?_
   refine W.c1 ?_
   refine W.seq (W.region ?_)
   refine RW.v ?_
   refine RW.nil ?_
   replace H := (H.del 0)
   dsimp only [setL, delL] at H
   refine W.ret ?_
   refine blkQ_ret ?_
   refine seqQ_ret ?_
   refine endG (by rfl) (by exact resL_tmp rfl) ?_
   refine ⟨?_, H⟩
   have ec : checkP x fr to_ at_ = 5 := by unfold checkP; (repeat' split) <;> first | rfl | (exfalso; omega) | (exfalso; simp_all)
   exact Eq.trans rfl (congrArg (Value.int .i64) ec.symm)
  ·have hc3b := hc3
   have hc3 := of_decide_eq_false hc3
   refine RW.w ?_
   refine RW.ldL H 0 1 (by rfl) (by kernel_rfl) rfl rfl rfl rfl rfl (by kernel_rfl) ?_
   refine RW.cl (hw := by rfl) ?_
   refine ⟨_, _, (s_valid (hU.le H.old) h16 (hs)), ?_⟩
   refine RW.w ?_
   iterate 2 refine RW.v ?_
   refine RW.nil ?_
   refine W.rg [(1, .int .i64 fr), (2, .int .i64 to_), (3, .int .i64 at_), (4, .pointer (some ⟨b1, 0, none⟩)), (9, .int .i64 (((runes x.s).length : Nat) : Int)), (13, .bool (!(validD x.s)))] fun TA => ?_
   refine W.cond rfl (fun hc4 => ?_) (fun hc4 => ?_)
   ·have hc4b := hc4
    refine W.seq (W.region ?_)
    refine RW.v ?_
    refine RW.nil ?_
    replace H := (H.del 0)
    dsimp only [setL, delL] at H
    refine W.ret ?_
    refine blkQ_ret ?_
    refine seqQ_ret ?_
    refine endG (by rfl) (by exact resL_tmp rfl) ?_
    refine ⟨?_, H⟩
    have ec : checkP x fr to_ at_ = 5 := by unfold checkP; (repeat' split) <;> first | rfl | (exfalso; omega) | (exfalso; simp_all)
    exact Eq.trans rfl (congrArg (Value.int .i64) ec.symm)
   ·have hc4b := hc4
    refine W.seq (W.region ?_)
    refine RW.v ?_
    refine RW.ld H 0 1 ?_
    iterate 3 refine RW.v ?_
    refine RW.both _ _ rfl rfl rfl (fun hc5 => ?_) (fun hc5 => ?_)
    ·have hc5b := hc5
     have hc5 := of_decide_eq_true hc5
     iterate 5 refine RW.s ?_
     iterate 2 refine RW.v ?_
     iterate 4 refine RW.s ?_
     iterate 2 refine RW.v ?_
     refine RW.nil ?_
     refine W.c1 ?_
     refine W.seq (W.region ?_)
     refine RW.v ?_
     refine RW.nil ?_
     replace H := (H.del 0)
     dsimp only [setL, delL] at H
     refine W.ret ?_
     refine blkQ_ret ?_
     refine seqQ_ret ?_
     refine endG (by rfl) (by exact resL_tmp rfl) ?_
     refine ⟨?_, H⟩
     have ec : checkP x fr to_ at_ = 3 := by unfold checkP; (repeat' split) <;> first | rfl | (exfalso; omega) | (exfalso; simp_all)
     exact Eq.trans rfl (congrArg (Value.int .i64) ec.symm)
    ·have hc5b := hc5
     have hc5 := of_decide_eq_false hc5
     refine RW.w ?_
     refine RW.ldL H 0 1 (by rfl) (by kernel_rfl) rfl rfl rfl rfl rfl (by kernel_rfl) ?_
     refine RW.w ?_
     refine RW.ldL H 0 1 (by rfl) (by kernel_rfl) rfl rfl rfl rfl rfl (by kernel_rfl) ?_
     refine RW.w ?_
     iterate 2 refine RW.v ?_
     refine RW.both _ _ rfl rfl rfl (fun hc6 => ?_) (fun hc6 => ?_)
     ·have hc6b := hc6
      have hc6 := of_decide_eq_true hc6
      iterate 4 refine RW.s ?_
      iterate 2 refine RW.v ?_
      refine RW.nil ?_
      refine W.c1 ?_
      refine W.seq (W.region ?_)
      refine RW.v ?_
      refine RW.nil ?_
      replace H := (H.del 0)
      dsimp only [setL, delL] at H
      refine W.ret ?_
      refine blkQ_ret ?_
      refine seqQ_ret ?_
      refine endG (by rfl) (by exact resL_tmp rfl) ?_
      refine ⟨?_, H⟩
      have ec : checkP x fr to_ at_ = 3 := by unfold checkP; (repeat' split) <;> first | rfl | (exfalso; omega) | (exfalso; simp_all)
      exact Eq.trans rfl (congrArg (Value.int .i64) ec.symm)
     ·have hc6b := hc6
      have hc6 := of_decide_eq_false hc6
      refine RW.w ?_
      refine RW.ldL H 0 1 (by rfl) (by kernel_rfl) rfl rfl rfl rfl rfl (by kernel_rfl) ?_
      iterate 2 refine RW.w ?_
      iterate 2 refine RW.v ?_
      refine RW.nil ?_
      refine W.rg [(3, .int .i64 at_), (4, .pointer (some ⟨b1, 0, none⟩)), (9, .int .i64 (((runes x.s).length : Nat) : Int)), (28, .bool (decide (x.t > to_)))] fun TA => ?_
      refine W.cond rfl (fun hc7 => ?_) (fun hc7 => ?_)
      ·have hc7b := hc7
       have hc7 := of_decide_eq_true hc7
       refine W.seq (W.region ?_)
       refine RW.v ?_
       refine RW.nil ?_
       replace H := (H.del 0)
       dsimp only [setL, delL] at H
       refine W.ret ?_
       refine blkQ_ret ?_
       refine seqQ_ret ?_
       refine endG (by rfl) (by exact resL_tmp rfl) ?_
       refine ⟨?_, H⟩
       have ec : checkP x fr to_ at_ = 3 := by unfold checkP; (repeat' split) <;> first | rfl | (exfalso; omega) | (exfalso; simp_all)
       exact Eq.trans rfl (congrArg (Value.int .i64) ec.symm)
      ·have hc7b := hc7
       have hc7 := of_decide_eq_false hc7
       refine W.seq (W.region ?_)
       refine RW.v ?_
       refine RW.ld H 0 1 ?_
       iterate 2 refine RW.v ?_
       refine RW.both _ _ rfl rfl rfl (fun hc8 => ?_) (fun hc8 => ?_)
       ·have hc8b := hc8
        have hc8 := eq_of_beq hc8
        refine RW.w ?_
        refine RW.ldL H 0 1 (by rfl) (by kernel_rfl) rfl rfl rfl rfl rfl (by kernel_rfl) ?_
        refine RW.w ?_
        refine RW.ldL H 0 1 (by rfl) (by kernel_rfl) rfl rfl rfl rfl rfl (by kernel_rfl) ?_
        refine RW.valE (v' := .int .i64 (x.t - x.p)) (by rfl) (by kernel_rfl) rfl (congrArg (Value.int .i64) (wrap_in (by omega) (by omega))) (by kernel_rfl) ?_
        iterate 2 refine RW.w ?_
        iterate 2 refine RW.v ?_
        refine RW.nil ?_
        refine W.rg [(3, .int .i64 at_), (4, .pointer (some ⟨b1, 0, none⟩)), (46, .bool ((x.t - x.p) != (((runes x.s).length : Nat) : Int)))] fun TA => ?_
        refine W.cond rfl (fun hc9 => ?_) (fun hc9 => ?_)
        ·have hc9b := hc9
         have hc9 := bne_iff_ne.1 hc9
         refine W.seq (W.region ?_)
         refine RW.v ?_
         refine RW.nil ?_
         replace H := (H.del 0)
         dsimp only [setL, delL] at H
         refine W.ret ?_
         refine blkQ_ret ?_
         refine seqQ_ret ?_
         refine endG (by rfl) (by exact resL_tmp rfl) ?_
         refine ⟨?_, H⟩
         have ec : checkP x fr to_ at_ = 5 := by unfold checkP; (repeat' split) <;> first | rfl | (exfalso; omega) | (exfalso; simp_all)
         exact Eq.trans rfl (congrArg (Value.int .i64) ec.symm)
        ·have hc9b := hc9
         have hc9 := (bne_eq_false_iff_eq.1) hc9
         refine W.seq (W.region ?_)
         refine RW.v ?_
         refine RW.ld H 0 1 ?_
         iterate 2 refine RW.v ?_
         refine RW.both _ _ rfl rfl rfl (fun hc10 => ?_) (fun hc10 => ?_)
         ·have hc10b := hc10
          have hc10 := eq_of_beq hc10
          refine RW.w ?_
          refine RW.ldL H 0 1 (by rfl) (by kernel_rfl) rfl rfl rfl rfl rfl (by kernel_rfl) ?_
          refine RW.w ?_
          refine RW.ldL H 0 1 (by rfl) (by kernel_rfl) rfl rfl rfl rfl rfl (by kernel_rfl) ?_
          refine RW.w ?_
          iterate 2 refine RW.v ?_
          refine RW.nil ?_
          refine W.rg [(3, .int .i64 at_), (4, .pointer (some ⟨b1, 0, none⟩)), (59, .bool (x.t != x.p))] fun TA => ?_
          refine W.cond rfl (fun hc11 => ?_) (fun hc11 => ?_)
          ·have hc11b := hc11
           have hc11 := bne_iff_ne.1 hc11
           refine W.seq (W.region ?_)
           refine RW.v ?_
           refine RW.nil ?_
           replace H := (H.del 0)
           dsimp only [setL, delL] at H
           refine W.ret ?_
           refine blkQ_ret ?_
           refine seqQ_ret ?_
           refine endG (by rfl) (by exact resL_tmp rfl) ?_
           refine ⟨?_, H⟩
           have ec : checkP x fr to_ at_ = 5 := by unfold checkP; (repeat' split) <;> first | rfl | (exfalso; omega) | (exfalso; simp_all)
           exact Eq.trans rfl (congrArg (Value.int .i64) ec.symm)
          ·have hc11b := hc11
           have hc11 := (bne_eq_false_iff_eq.1) hc11
           refine W.seq (W.region ?_)
           refine RW.v ?_
           refine RW.ld H 0 1 ?_
           iterate 3 refine RW.v ?_
           refine RW.nil ?_
           replace H := (H.del 0)
           dsimp only [setL, delL] at H
           refine W.rg [(70, .bool (decide (x.p < at_)))] fun TA => ?_
           refine W.cond rfl (fun hc12 => ?_) (fun hc12 => ?_)
           ·have hc12b := hc12
            have hc12 := of_decide_eq_true hc12
            refine W.seq (W.region ?_)
            refine RW.v ?_
            refine RW.nil ?_
            refine W.ret ?_
            refine blkQ_ret ?_
            refine seqQ_ret ?_
            refine endG (by rfl) (by exact resL_tmp rfl) ?_
            refine ⟨?_, H⟩
            have ec : checkP x fr to_ at_ = 19 := by unfold checkP; (repeat' split) <;> first | rfl | (exfalso; omega) | (exfalso; simp_all)
            exact Eq.trans rfl (congrArg (Value.int .i64) ec.symm)
           ·have hc12b := hc12
            have hc12 := of_decide_eq_false hc12
            refine W.skip ?_
            refine blkQ_normal ?_
            refine W.seq (W.region ?_)
            refine RW.v ?_
            refine RW.nil ?_
            refine W.ret ?_
            refine endG (by rfl) (by exact resL_tmp rfl) ?_
            refine ⟨?_, H⟩
            have ec : checkP x fr to_ at_ = 0 := by unfold checkP; (repeat' split) <;> first | rfl | (exfalso; omega) | (exfalso; simp_all)
            exact Eq.trans rfl (congrArg (Value.int .i64) ec.symm)
         ·have hc10b := hc10
          have hc10 := ne_of_beq_false hc10
          iterate 5 refine RW.s ?_
          iterate 2 refine RW.v ?_
          refine RW.nil ?_
          refine W.c0 ?_
          refine W.seq (W.region ?_)
          refine RW.v ?_
          refine RW.ld H 0 1 ?_
          iterate 3 refine RW.v ?_
          refine RW.nil ?_
          replace H := (H.del 0)
          dsimp only [setL, delL] at H
          refine W.rg [(70, .bool (decide (x.p < at_)))] fun TA => ?_
          refine W.cond rfl (fun hc13 => ?_) (fun hc13 => ?_)
          ·have hc13b := hc13
           have hc13 := of_decide_eq_true hc13
           refine W.seq (W.region ?_)
           refine RW.v ?_
           refine RW.nil ?_
           refine W.ret ?_
           refine blkQ_ret ?_
           refine seqQ_ret ?_
           refine endG (by rfl) (by exact resL_tmp rfl) ?_
           refine ⟨?_, H⟩
           have ec : checkP x fr to_ at_ = 19 := by unfold checkP; (repeat' split) <;> first | rfl | (exfalso; omega) | (exfalso; simp_all)
           exact Eq.trans rfl (congrArg (Value.int .i64) ec.symm)
          ·have hc13b := hc13
           have hc13 := of_decide_eq_false hc13
           refine W.skip ?_
           refine blkQ_normal ?_
           refine W.seq (W.region ?_)
           refine RW.v ?_
           refine RW.nil ?_
           refine W.ret ?_
           refine endG (by rfl) (by exact resL_tmp rfl) ?_
           refine ⟨?_, H⟩
           have ec : checkP x fr to_ at_ = 0 := by unfold checkP; (repeat' split) <;> first | rfl | (exfalso; omega) | (exfalso; simp_all)
           exact Eq.trans rfl (congrArg (Value.int .i64) ec.symm)
       ·have hc8b := hc8
        have hc8 := ne_of_beq_false hc8
        iterate 7 refine RW.s ?_
        iterate 2 refine RW.v ?_
        refine RW.nil ?_
        refine W.c0 ?_
        refine W.seq (W.region ?_)
        refine RW.v ?_
        refine RW.ld H 0 1 ?_
        iterate 2 refine RW.v ?_
        refine RW.both _ _ rfl rfl rfl (fun hc14 => ?_) (fun hc14 => ?_)
        ·have hc14b := hc14
         have hc14 := eq_of_beq hc14
         refine RW.w ?_
         refine RW.ldL H 0 1 (by rfl) (by kernel_rfl) rfl rfl rfl rfl rfl (by kernel_rfl) ?_
         refine RW.w ?_
         refine RW.ldL H 0 1 (by rfl) (by kernel_rfl) rfl rfl rfl rfl rfl (by kernel_rfl) ?_
         refine RW.w ?_
         iterate 2 refine RW.v ?_
         refine RW.nil ?_
         refine W.rg [(3, .int .i64 at_), (4, .pointer (some ⟨b1, 0, none⟩)), (59, .bool (x.t != x.p))] fun TA => ?_
         refine W.cond rfl (fun hc15 => ?_) (fun hc15 => ?_)
         ·have hc15b := hc15
          have hc15 := bne_iff_ne.1 hc15
          refine W.seq (W.region ?_)
          refine RW.v ?_
          refine RW.nil ?_
          replace H := (H.del 0)
          dsimp only [setL, delL] at H
          refine W.ret ?_
          refine blkQ_ret ?_
          refine seqQ_ret ?_
          refine endG (by rfl) (by exact resL_tmp rfl) ?_
          refine ⟨?_, H⟩
          have ec : checkP x fr to_ at_ = 5 := by unfold checkP; (repeat' split) <;> first | rfl | (exfalso; omega) | (exfalso; simp_all)
          exact Eq.trans rfl (congrArg (Value.int .i64) ec.symm)
         ·have hc15b := hc15
          have hc15 := (bne_eq_false_iff_eq.1) hc15
          refine W.seq (W.region ?_)
          refine RW.v ?_
          refine RW.ld H 0 1 ?_
          iterate 3 refine RW.v ?_
          refine RW.nil ?_
          replace H := (H.del 0)
          dsimp only [setL, delL] at H
          refine W.rg [(70, .bool (decide (x.p < at_)))] fun TA => ?_
          refine W.cond rfl (fun hc16 => ?_) (fun hc16 => ?_)
          ·have hc16b := hc16
           have hc16 := of_decide_eq_true hc16
           refine W.seq (W.region ?_)
           refine RW.v ?_
           refine RW.nil ?_
           refine W.ret ?_
           refine blkQ_ret ?_
           refine seqQ_ret ?_
           refine endG (by rfl) (by exact resL_tmp rfl) ?_
           refine ⟨?_, H⟩
           have ec : checkP x fr to_ at_ = 19 := by unfold checkP; (repeat' split) <;> first | rfl | (exfalso; omega) | (exfalso; simp_all)
           exact Eq.trans rfl (congrArg (Value.int .i64) ec.symm)
          ·have hc16b := hc16
           have hc16 := of_decide_eq_false hc16
           refine W.skip ?_
           refine blkQ_normal ?_
           refine W.seq (W.region ?_)
           refine RW.v ?_
           refine RW.nil ?_
           refine W.ret ?_
           refine endG (by rfl) (by exact resL_tmp rfl) ?_
           refine ⟨?_, H⟩
           have ec : checkP x fr to_ at_ = 0 := by unfold checkP; (repeat' split) <;> first | rfl | (exfalso; omega) | (exfalso; simp_all)
           exact Eq.trans rfl (congrArg (Value.int .i64) ec.symm)
        ·have hc14b := hc14
         have hc14 := ne_of_beq_false hc14
         iterate 5 refine RW.s ?_
         iterate 2 refine RW.v ?_
         refine RW.nil ?_
         refine W.c0 ?_
         refine W.seq (W.region ?_)
         refine RW.v ?_
         refine RW.ld H 0 1 ?_
         iterate 3 refine RW.v ?_
         refine RW.nil ?_
         replace H := (H.del 0)
         dsimp only [setL, delL] at H
         refine W.rg [(70, .bool (decide (x.p < at_)))] fun TA => ?_
         refine W.cond rfl (fun hc17 => ?_) (fun hc17 => ?_)
         ·have hc17b := hc17
          have hc17 := of_decide_eq_true hc17
          refine W.seq (W.region ?_)
          refine RW.v ?_
          refine RW.nil ?_
          refine W.ret ?_
          refine blkQ_ret ?_
          refine seqQ_ret ?_
          refine endG (by rfl) (by exact resL_tmp rfl) ?_
          refine ⟨?_, H⟩
          have ec : checkP x fr to_ at_ = 19 := by unfold checkP; (repeat' split) <;> first | rfl | (exfalso; omega) | (exfalso; simp_all)
          exact Eq.trans rfl (congrArg (Value.int .i64) ec.symm)
         ·have hc17b := hc17
          have hc17 := of_decide_eq_false hc17
          refine W.skip ?_
          refine blkQ_normal ?_
          refine W.seq (W.region ?_)
          refine RW.v ?_
          refine RW.nil ?_
          refine W.ret ?_
          refine endG (by rfl) (by exact resL_tmp rfl) ?_
          refine ⟨?_, H⟩
          have ec : checkP x fr to_ at_ = 0 := by unfold checkP; (repeat' split) <;> first | rfl | (exfalso; omega) | (exfalso; simp_all)
          exact Eq.trans rfl (congrArg (Value.int .i64) ec.symm)
set_option maxHeartbeats 4000000 in
theorem Check_wc {l : List Prt} {v1 : Value} (hU : U8F F) (h16 : 16 ≤ G) (h1 : SlF F 9 v1 l.length (pC l)) (hl : l.length ≤ 1000000) (hsm : ∀ x ∈ l, x.s.length ≤ 1000000) (H : Lies G A F σ L) : WC G Tryd.prog 16 #[v1, .int .i64 fr, .int .i64 to_] σ fun v σ' => v = .int .i64 (checkM l fr to_) ∧ Lies G A F σ' L := by
 refine WC.enter (fn := Tryd.f16) Tryd.func16 rfl ?_
 refine W.rg [(0, v1), (1, .int .i64 fr), (2, .int .i64 to_)] fun TA => ?_
 refine W.seq (W.region ?_)
 refine RW.v ?_
 refine RW.nil ?_
 refine W.rg [(0, v1), (1, .int .i64 fr), (2, .int .i64 to_)] fun TA => ?_
 refine W.seq ?_
 refine W.seq (W.region ?_)
 iterate 3 refine RW.v ?_
 refine RW.both _ _ rfl rfl rfl (fun hc1 => ?_) (fun hc1 => ?_)
 ·have hc1b := hc1
  have hc1 := of_decide_eq_true hc1
  iterate 3 refine RW.s ?_
  iterate 2 refine RW.v ?_
  iterate 2 refine RW.s ?_
  refine RW.v ?_
  refine RW.nil ?_
  refine W.c1 ?_
  refine W.seq (W.region ?_)
  refine RW.v ?_
  refine RW.nil ?_
  refine W.ret ?_
  refine seqQ_ret ?_
  refine endG (by rfl) (by exact resL_tmp rfl) ?_
  refine ⟨?_, H⟩
  have ec : checkM l fr to_ = 3 := by unfold checkM; rw [if_pos (by omega)]
  exact Eq.trans rfl (congrArg (Value.int .i64) ec.symm)
 ·have hc1b := hc1
  have hc1 := of_decide_eq_false hc1
  iterate 3 refine RW.w ?_
  iterate 2 refine RW.v ?_
  refine RW.both _ _ rfl rfl rfl (fun hc2 => ?_) (fun hc2 => ?_)
  ·have hc2b := hc2
   have hc2 := of_decide_eq_true hc2
   iterate 2 refine RW.s ?_
   refine RW.v ?_
   refine RW.nil ?_
   refine W.c1 ?_
   refine W.seq (W.region ?_)
   refine RW.v ?_
   refine RW.nil ?_
   refine W.ret ?_
   refine seqQ_ret ?_
   refine endG (by rfl) (by exact resL_tmp rfl) ?_
   refine ⟨?_, H⟩
   have ec : checkM l fr to_ = 3 := by unfold checkM; rw [if_pos (by omega)]
   exact Eq.trans rfl (congrArg (Value.int .i64) ec.symm)
  ·have hc2b := hc2
   have hc2 := of_decide_eq_false hc2
   iterate 2 refine RW.w ?_
   refine RW.v ?_
   refine RW.nil ?_
   refine W.rg [(0, v1), (1, .int .i64 fr), (2, .int .i64 to_), (21, .bool (decide (to_ > 65537)))] fun TA => ?_
   refine W.cond rfl (fun hc3 => ?_) (fun hc3 => ?_)
   ·have hc3b := hc3
    have hc3 := of_decide_eq_true hc3
    refine W.seq (W.region ?_)
    refine RW.v ?_
    refine RW.nil ?_
    refine W.ret ?_
    refine seqQ_ret ?_
    refine endG (by rfl) (by exact resL_tmp rfl) ?_
    refine ⟨?_, H⟩
    have ec : checkM l fr to_ = 3 := by unfold checkM; rw [if_pos (by omega)]
    exact Eq.trans rfl (congrArg (Value.int .i64) ec.symm)
   ·have hc3b := hc3
    have hc3 := of_decide_eq_false hc3
    refine W.skip ?_
    refine W.seq (W.region ?_)
    iterate 2 refine RW.v ?_
    refine RW.nil ?_
    refine W.rg [(0, v1), (1, .int .i64 fr), (2, .int .i64 to_), (7, .int .i64 fr)] fun TA => ?_
    refine W.seq ?_
    refine W.seq (W.region ?_)
    refine RW.v ?_
    refine RW.len (by kernel_rfl) (by kernel_rfl) rfl rfl rfl rfl (h1.len (e := 52) (by kernel_rfl)) (by kernel_rfl) ?_
    refine RW.v ?_
    refine RW.nil ?_
    refine W.rg [(1, .int .i64 fr), (2, .int .i64 to_), (7, .int .i64 fr), (23, v1), (24, .int .i64 (l.length : Int)), (25, .int .i64 0)] fun TA => ?_
    refine W.block ?_
    refine W.loop (fun mm ta σ => ∃ (i : Nat) (z : Int), (mm + i = l.length) ∧ (checkL fr to_ fr l = checkL fr to_ z (l.drop i)) ∧ Lies G A F σ ((L)) ∧ ta 1 = .int .i64 fr ∧ ta 2 = .int .i64 to_ ∧ ta 7 = .int .i64 z ∧ ta 23 = v1 ∧ ta 24 = .int .i64 (l.length : Int) ∧ ta 25 = .int .i64 ((i : Nat) : Int)) l.length ?_ ?_
    ·exact ⟨0, fr, (by omega), rfl, H, rfl, rfl, rfl, rfl, rfl, rfl⟩
    clear H
    rintro mm ta _ ⟨i, z, hm, hT, H, e1, e2, e7, e23, e24, e25⟩
    refine W.rst [(1, .int .i64 fr), (2, .int .i64 to_), (7, .int .i64 z), (23, v1), (24, .int .i64 (l.length : Int)), (25, .int .i64 ((i : Nat) : Int))] ⟨e1, e2, e7, e23, e24, e25, trivial⟩ fun TA => ?_
    clear e1 e2 e7 e23 e24 e25
    refine W.seq (W.region ?_)
    refine RW.v ?_
    refine RW.nil ?_
    refine W.rg [(1, .int .i64 fr), (2, .int .i64 to_), (7, .int .i64 z), (23, v1), (24, .int .i64 (l.length : Int)), (25, .int .i64 ((i : Nat) : Int)), (26, .bool (decide (((i : Nat) : Int) < (l.length : Int))))] fun TA => ?_
    refine W.seq ?_
    refine W.cond rfl (fun hc4 => ?_) (fun hc4 => ?_)
    ·have hc4b := hc4
     have hc4 := of_decide_eq_true hc4
     refine W.skip ?_
     refine W.seq ?_
     refine W.block ?_
     refine W.seq (W.region ?_)
     refine RW.idxF h1 (by kernel_rfl) (by kernel_rfl) rfl Tryd.underlying22 (by kernel_rfl) rfl rfl ⟨by omega, by omega⟩ (by kernel_rfl) ?_
     intro b5 q6 r7 hF8 hE9
     rw [pC_ati (l := l) (j := i) (by omega)] at hE9
     refine RW.loads 9 (by kernel_rfl) (by kernel_rfl) rfl rfl (H.old _ _ hF8) hE9 rfl (by kernel_rfl) ?_
     refine RW.mk H (.row ⟨[.int .i64 0, .int .i64 0, .int .i64 0, .string ByteArray.empty, .int .i64 0, .int .i64 0, .bool false, .bool false, .bool false], 52, false⟩) ?_
     clear H; intro _ b10 _ H
     refine RW.st H 0 [.int .i64 ((l.getD i default).k), .int .i64 ((l.getD i default).p), .int .i64 ((l.getD i default).t), .string ⟨((l.getD i default).s).toArray⟩, .int .i64 ((l.getD i default).b), .int .i64 ((l.getD i default).c), .bool ((l.getD i default).d), .bool ((l.getD i default).e), .bool ((l.getD i default).f)] [.int .i64 ((l.getD i default).k), .int .i64 ((l.getD i default).p), .int .i64 ((l.getD i default).t), .string ⟨((l.getD i default).s).toArray⟩, .int .i64 ((l.getD i default).b), .int .i64 ((l.getD i default).c), .bool ((l.getD i default).d), .bool ((l.getD i default).e), .bool ((l.getD i default).f)] ?_
     clear H; intro _ _ H; dsimp only [setL, delL] at H
     refine RW.nil ?_
     refine W.rg [(1, .int .i64 fr), (2, .int .i64 to_), (7, .int .i64 z), (9, .pointer (some ⟨b10, 0, none⟩)), (23, v1), (24, .int .i64 (l.length : Int)), (25, .int .i64 ((i : Nat) : Int))] fun TA => ?_
     refine W.seq ?_
     refine W.seq (W.region ?_)
     refine RW.ld H 0 9 ?_
     iterate 3 refine RW.v ?_
     have hxs := hsm (l.getD i default) (by rw [List.getD_eq_getElem?_getD, List.getElem?_eq_getElem (by omega)]; exact List.getElem_mem _)
     refine RW.cl ?_
     refine ((check_wc (x := (l.getD i default)) (fr := fr) (to_ := to_) (at_ := z) (by omega) (by omega) hU h16 hxs H).mono ?_)
     clear H
     rintro _ _ ⟨rfl, H⟩
     refine RW.v ?_
     refine RW.nil ?_
     refine W.rg [(1, .int .i64 fr), (2, .int .i64 to_), (9, .pointer (some ⟨b10, 0, none⟩)), (10, .int .i64 (checkP (l.getD i default) fr to_ z)), (23, v1), (24, .int .i64 (l.length : Int)), (25, .int .i64 ((i : Nat) : Int))] fun TA => ?_
     refine W.seq (W.region ?_)
     iterate 2 refine RW.v ?_
     refine RW.nil ?_
     refine W.rg [(1, .int .i64 fr), (2, .int .i64 to_), (9, .pointer (some ⟨b10, 0, none⟩)), (10, .int .i64 (checkP (l.getD i default) fr to_ z)), (23, v1), (24, .int .i64 (l.length : Int)), (25, .int .i64 ((i : Nat) : Int)), (35, .bool ((checkP (l.getD i default) fr to_ z) != 0))] fun TA => ?_
     refine W.cond rfl (fun hc11 => ?_) (fun hc11 => ?_)
     ·have hc11b := hc11
      have hc11 := bne_iff_ne.1 hc11
      refine W.seq (W.region ?_)
      iterate 2 refine RW.v ?_
      refine RW.nil ?_
      replace H := (H.del 0)
      dsimp only [setL, delL] at H
      refine W.ret ?_
      refine seqQ_ret ?_
      refine blkQ_ret ?_
      refine seqQ_ret ?_
      refine rndQ_ret ?_
      refine blkQ_ret ?_
      refine seqQ_ret ?_
      refine endG (by rfl) (by exact resL_tmp rfl) ?_
      refine ⟨?_, H⟩
      have ec : checkM l fr to_ = (checkP (l.getD i default) fr to_ z) := by unfold checkM; rw [if_neg (by omega), hT, checkL_stop (show i < l.length by omega) (by omega)]
      exact Eq.trans rfl (congrArg (Value.int .i64) ec.symm)
     ·have hc11b := hc11
      have hc11 := (bne_eq_false_iff_eq.1) hc11
      refine W.skip ?_
      refine W.region ?_
      refine RW.v ?_
      refine RW.ld H 0 1 ?_
      refine RW.v ?_
      refine RW.nil ?_
      replace H := (H.del 0)
      dsimp only [setL, delL] at H
      refine blkQ_normal ?_
      refine W.rg [(1, .int .i64 fr), (2, .int .i64 to_), (7, .int .i64 ((l.getD i default).t)), (23, v1), (24, .int .i64 (l.length : Int)), (25, .int .i64 ((i : Nat) : Int))] fun TA => ?_
      refine W.region ?_
      refine RW.valE (v' := .int .i64 (((i : Nat) : Int) + 1)) (by kernel_rfl) (by kernel_rfl) rfl (congrArg (Value.int .i64) (wrap_in (by omega) (by omega))) (by kernel_rfl) ?_
      refine RW.v ?_
      refine RW.nil ?_
      exact ⟨rfl, mm - 1, by omega, i + 1, (l.getD i default).t, (by omega), (by rw [hT, checkL_go (show i < l.length by omega) (by omega)]), H, rfl, rfl, rfl, rfl, rfl, rfl⟩
    ·have hc4b := hc4
     have hc4 := of_decide_eq_false hc4
     refine W.exit _ ?_
     refine seqQ_exit ?_
     refine rndQ_exit ?_
     refine blkQ_here ?_
     refine W.seq (W.region ?_)
     refine RW.v ?_
     refine RW.nil ?_
     refine W.ret ?_
     refine endG (by rfl) (by exact resL_tmp rfl) ?_
     refine ⟨?_, H⟩
     have ec : checkM l fr to_ = 0 := by unfold checkM; rw [if_neg (by omega), hT, List.drop_eq_nil_of_le (by omega)]; rfl
     exact Eq.trans rfl (congrArg (Value.int .i64) ec.symm)
set_option maxHeartbeats 4000000 in
theorem cells_wc {c : Nat} {pos : Int} (H : Lies G A F σ L) : WC G Tryd.prog 67 #[.agg #[.int .i64 ((c : Nat) : Int), .int .i64 pos, .int .i64 x.b, .int .i64 x.c, .bool x.d, .bool x.e, .bool x.f]] σ fun v σ' => (cellsM ((c : Nat) : Int) x = [] ∧ v = .slice none 0 0 ∧ Lies G A F σ' L) ∨ ∃ b, cellsM ((c : Nat) : Int) x ≠ [] ∧ v = .slice (some ⟨b, 0, none⟩) (cellsM ((c : Nat) : Int) x).length (cellsM ((c : Nat) : Int) x).length ∧ Lies G A F σ' (.at_ b (.row ⟨cC (cellsM ((c : Nat) : Int) x), 79, false⟩) :: L) := by
 refine WC.enter (fn := Tryd.f67) Tryd.func67 rfl ?_
 refine W.rg [(0, .agg #[.int .i64 ((c : Nat) : Int), .int .i64 pos, .int .i64 x.b, .int .i64 x.c, .bool x.d, .bool x.e, .bool x.f])] fun TA => ?_
 refine W.seq (W.region ?_)
 refine RW.mk H (.row ⟨[.int .i64 ((c : Nat) : Int), .int .i64 pos, .int .i64 x.b, .int .i64 x.c, .bool x.d, .bool x.e, .bool x.f], 116, false⟩) ?_
 clear H; intro _ b1 _ H
 refine RW.v ?_
 refine RW.nil ?_
 refine W.rg [(1, .pointer (some ⟨b1, 0, none⟩))] fun TA => ?_
 refine W.seq (W.region ?_)
 refine RW.v ?_
 refine RW.ld H 0 1 ?_
 refine RW.cl ?_
 refine ⟨_, _, (s_width _), ?_⟩
 refine RW.v ?_
 refine RW.nil ?_
 refine W.rg [(1, .pointer (some ⟨b1, 0, none⟩)), (3, .int .i64 (widthOf ((c : Nat) : Int)))] fun TA => ?_
 refine W.seq ?_
 refine W.block ?_
 refine W.seq (W.region ?_)
 refine RW.v ?_
 refine RW.ld H 0 1 ?_
 iterate 2 refine RW.v ?_
 refine RW.both _ _ rfl rfl rfl (fun hc2 => ?_) (fun hc2 => ?_)
 ·have hc2b := hc2
  have hc2 := of_decide_eq_true hc2
  iterate 3 refine RW.s ?_
  iterate 2 refine RW.v ?_
  refine RW.nil ?_
  refine W.c1 ?_
  refine W.seq (W.region ?_)
  refine RW.v ?_
  refine RW.ld H 0 5 ?_
  refine RW.val (v := .agg #[.int .i64 94, .int .i64 x.b, .int .i64 x.c, .bool x.d, .bool x.e, .bool x.f]) (by kernel_rfl) (by kernel_rfl) (by kernel_rfl) (by kernel_rfl) ?_
  refine RW.v ?_
  refine RW.ld H 0 1 ?_
  refine RW.vop (v := .int .i64 (ctlI ((c : Nat) : Int))) (by kernel_rfl) (by kernel_rfl) (vop_fastBin rfl rfl rfl rfl) (by kernel_rfl) ?_
  refine RW.v ?_
  refine RW.ld H 0 5 ?_
  refine RW.val (v := .agg #[.int .i64 (ctlI ((c : Nat) : Int)), .int .i64 x.b, .int .i64 x.c, .bool x.d, .bool x.e, .bool x.f]) (by kernel_rfl) (by kernel_rfl) (by kernel_rfl) (by kernel_rfl) ?_
  refine RW.mkL H (x := .row ⟨[.int .i64 94, .int .i64 x.b, .int .i64 x.c, .bool x.d, .bool x.e, .bool x.f, .int .i64 (ctlI ((c : Nat) : Int)), .int .i64 x.b, .int .i64 x.c, .bool x.d, .bool x.e, .bool x.f], 79, false⟩) (fm := fun b => .slice (some ⟨b, 0, none⟩) 2 2) (by kernel_rfl) (by kernel_rfl) (by kernel_rfl) (by kernel_rfl) ?_
  clear H; intro _ b3 _ H
  refine RW.v ?_
  refine RW.nil ?_
  replace H := (H.del 1)
  dsimp only [setL, delL] at H
  refine W.ret ?_
  refine blkQ_ret ?_
  refine seqQ_ret ?_
  refine endG (by rfl) (by exact resL_tmp rfl) ?_
  have ec : cellsM ((c : Nat) : Int) x = [⟨94, x.b, x.c, x.d, x.e, x.f⟩, ⟨(ctlI ((c : Nat) : Int)), x.b, x.c, x.d, x.e, x.f⟩] := by unfold cellsM; rw [if_pos (by omega)]
  rw [ec]
  exact .inr ⟨_, by simp, rfl, H⟩
 ·have hc2b := hc2
  have hc2 := of_decide_eq_false hc2
  refine RW.w ?_
  refine RW.ldL H 0 1 (by rfl) (by kernel_rfl) rfl rfl rfl rfl rfl (by kernel_rfl) ?_
  refine RW.w ?_
  iterate 2 refine RW.v ?_
  refine RW.nil ?_
  refine W.rg [(1, .pointer (some ⟨b1, 0, none⟩)), (3, .int .i64 (widthOf ((c : Nat) : Int))), (7, .bool (((c : Nat) : Int) == 127))] fun TA => ?_
  refine W.cond rfl (fun hc4 => ?_) (fun hc4 => ?_)
  ·have hc4b := hc4
   have hc4 := eq_of_beq hc4
   refine W.seq (W.region ?_)
   refine RW.v ?_
   refine RW.ld H 0 5 ?_
   refine RW.val (v := .agg #[.int .i64 94, .int .i64 x.b, .int .i64 x.c, .bool x.d, .bool x.e, .bool x.f]) (by kernel_rfl) (by kernel_rfl) (by kernel_rfl) (by kernel_rfl) ?_
   refine RW.v ?_
   refine RW.ld H 0 1 ?_
   refine RW.vop (v := .int .i64 (ctlI ((c : Nat) : Int))) (by kernel_rfl) (by kernel_rfl) (vop_fastBin rfl rfl rfl rfl) (by kernel_rfl) ?_
   refine RW.v ?_
   refine RW.ld H 0 5 ?_
   refine RW.val (v := .agg #[.int .i64 (ctlI ((c : Nat) : Int)), .int .i64 x.b, .int .i64 x.c, .bool x.d, .bool x.e, .bool x.f]) (by kernel_rfl) (by kernel_rfl) (by kernel_rfl) (by kernel_rfl) ?_
   refine RW.mkL H (x := .row ⟨[.int .i64 94, .int .i64 x.b, .int .i64 x.c, .bool x.d, .bool x.e, .bool x.f, .int .i64 (ctlI ((c : Nat) : Int)), .int .i64 x.b, .int .i64 x.c, .bool x.d, .bool x.e, .bool x.f], 79, false⟩) (fm := fun b => .slice (some ⟨b, 0, none⟩) 2 2) (by kernel_rfl) (by kernel_rfl) (by kernel_rfl) (by kernel_rfl) ?_
   clear H; intro _ b5 _ H
   refine RW.v ?_
   refine RW.nil ?_
   replace H := (H.del 1)
   dsimp only [setL, delL] at H
   refine W.ret ?_
   refine blkQ_ret ?_
   refine seqQ_ret ?_
   refine endG (by rfl) (by exact resL_tmp rfl) ?_
   have ec : cellsM ((c : Nat) : Int) x = [⟨94, x.b, x.c, x.d, x.e, x.f⟩, ⟨(ctlI ((c : Nat) : Int)), x.b, x.c, x.d, x.e, x.f⟩] := by unfold cellsM; rw [if_pos (by omega)]
   rw [ec]
   exact .inr ⟨_, by simp, rfl, H⟩
  ·have hc4b := hc4
   have hc4 := ne_of_beq_false hc4
   refine W.seq (W.region ?_)
   iterate 3 refine RW.v ?_
   refine RW.nil ?_
   refine W.rg [(1, .pointer (some ⟨b1, 0, none⟩)), (3, .int .i64 (widthOf ((c : Nat) : Int))), (26, .bool ((widthOf ((c : Nat) : Int)) == 0))] fun TA => ?_
   refine W.cond rfl (fun hc6 => ?_) (fun hc6 => ?_)
   ·have hc6b := hc6
    have hc6 := eq_of_beq hc6
    refine W.seq (W.region ?_)
    refine RW.v ?_
    refine RW.nil ?_
    replace H := (H.del 0)
    dsimp only [setL, delL] at H
    refine W.ret ?_
    refine blkQ_ret ?_
    refine seqQ_ret ?_
    refine endG (by rfl) (by exact resL_tmp rfl) ?_
    have ec : cellsM ((c : Nat) : Int) x = [] := by unfold cellsM; rw [if_neg (by omega), if_pos (by omega)]
    rw [ec]
    exact .inl ⟨rfl, rfl, H⟩
   ·have hc6b := hc6
    have hc6 := ne_of_beq_false hc6
    refine W.seq (W.region ?_)
    iterate 3 refine RW.v ?_
    refine RW.nil ?_
    refine W.rg [(1, .pointer (some ⟨b1, 0, none⟩)), (29, .bool ((widthOf ((c : Nat) : Int)) == 2))] fun TA => ?_
    refine W.cond rfl (fun hc7 => ?_) (fun hc7 => ?_)
    ·have hc7b := hc7
     have hc7 := eq_of_beq hc7
     refine W.seq (W.region ?_)
     refine RW.v ?_
     refine RW.ld H 0 1 ?_
     refine RW.v ?_
     refine RW.ld H 0 5 ?_
     refine RW.val (v := .agg #[.int .i64 ((c : Nat) : Int), .int .i64 x.b, .int .i64 x.c, .bool x.d, .bool x.e, .bool x.f]) (by kernel_rfl) (by kernel_rfl) (by kernel_rfl) (by kernel_rfl) ?_
     refine RW.v ?_
     refine RW.ld H 0 5 ?_
     refine RW.val (v := .agg #[.int .i64 (-1), .int .i64 x.b, .int .i64 x.c, .bool x.d, .bool x.e, .bool x.f]) (by kernel_rfl) (by kernel_rfl) (by kernel_rfl) (by kernel_rfl) ?_
     refine RW.mkL H (x := .row ⟨[.int .i64 ((c : Nat) : Int), .int .i64 x.b, .int .i64 x.c, .bool x.d, .bool x.e, .bool x.f, .int .i64 (-1), .int .i64 x.b, .int .i64 x.c, .bool x.d, .bool x.e, .bool x.f], 79, false⟩) (fm := fun b => .slice (some ⟨b, 0, none⟩) 2 2) (by kernel_rfl) (by kernel_rfl) (by kernel_rfl) (by kernel_rfl) ?_
     clear H; intro _ b8 _ H
     refine RW.v ?_
     refine RW.nil ?_
     replace H := (H.del 1)
     dsimp only [setL, delL] at H
     refine W.ret ?_
     refine blkQ_ret ?_
     refine seqQ_ret ?_
     refine endG (by rfl) (by exact resL_tmp rfl) ?_
     have ec : cellsM ((c : Nat) : Int) x = [⟨((c : Nat) : Int), x.b, x.c, x.d, x.e, x.f⟩, ⟨-1, x.b, x.c, x.d, x.e, x.f⟩] := by unfold cellsM; rw [if_neg (by omega), if_neg (by omega), if_pos (by omega)]
     rw [ec]
     exact .inr ⟨_, by simp, rfl, H⟩
    ·have hc7b := hc7
     have hc7 := ne_of_beq_false hc7
     refine W.skip ?_
     refine blkQ_normal ?_
     refine W.seq (W.region ?_)
     refine RW.v ?_
     refine RW.ld H 0 1 ?_
     refine RW.v ?_
     refine RW.ld H 0 5 ?_
     refine RW.val (v := .agg #[.int .i64 ((c : Nat) : Int), .int .i64 x.b, .int .i64 x.c, .bool x.d, .bool x.e, .bool x.f]) (by kernel_rfl) (by kernel_rfl) (by kernel_rfl) (by kernel_rfl) ?_
     refine RW.mkL H (x := .row ⟨[.int .i64 ((c : Nat) : Int), .int .i64 x.b, .int .i64 x.c, .bool x.d, .bool x.e, .bool x.f], 79, false⟩) (fm := fun b => .slice (some ⟨b, 0, none⟩) 1 1) (by kernel_rfl) (by kernel_rfl) (by kernel_rfl) (by kernel_rfl) ?_
     clear H; intro _ b9 _ H
     refine RW.v ?_
     refine RW.nil ?_
     replace H := (H.del 1)
     dsimp only [setL, delL] at H
     refine W.ret ?_
     refine endG (by rfl) (by exact resL_tmp rfl) ?_
     have ec : cellsM ((c : Nat) : Int) x = [⟨((c : Nat) : Int), x.b, x.c, x.d, x.e, x.f⟩] := by unfold cellsM; rw [if_neg (by omega), if_neg (by omega), if_neg (by omega)]
     rw [ec]
     exact .inr ⟨_, by simp, rfl, H⟩
end
end Go.Proofs.YtmmapljeeccdnaaDoor
namespace Go.Proofs.YtmmapljeeccdnaaDoor
set_option maxRecDepth 100000
open Go.Lib
structure Un where
 X : List Cel
 pos : Int
 fd : Bool
structure LS where
 R : List RowV
 x : Int
 f : Fil
 ov : Bool
 dn : Bool
def rowOf (r : Fil) : RowV := ⟨r.C, r.P, r.fr, 0, r.co⟩
def rto (r : RowV) (x : Int) : RowV := ⟨r.C, r.P, r.fr, x, r.co⟩
def tosX : List RowV → Int → List RowV
 | [], _ => []
 | [r], x => [rto r x]
 | r :: q :: l, x => rto r q.fr :: tosX (q :: l) x
section
variable (to_ : Int) (wd : Nat) (wrap : Bool) (most : Nat)
def emitS (s : LS) (r : Fil) : LS := if s.R.length = most then { s with x := r.fr, dn := true } else { s with R := s.R ++ [rowOf r], x := to_ }
def wrapF (s : Fil) : Fil := ⟨markC s.C 92, s.P, s.n, s.fr, true⟩
def uStep (s : LS) (u : Un) : LS :=
 if u.fd = true then
  if (emitS to_ most s (if s.ov = true then s.f else endF s.f u.pos)).dn = true then emitS to_ most s (if s.ov = true then s.f else endF s.f u.pos)
  else { emitS to_ most s (if s.ov = true then s.f else endF s.f u.pos) with f := fil0 wd, ov := false }
 else if s.ov = true then s
 else if (putF wd s.f u.X u.pos).2 = true then { s with f := (putF wd s.f u.X u.pos).1 }
 else if wrap = true then
  if (emitS to_ most s (wrapF s.f)).dn = true then emitS to_ most s (wrapF s.f)
  else { emitS to_ most s (wrapF s.f) with f := (putF wd (fil0 wd) u.X u.pos).1 }
 else { s with f := markF s.f 36, ov := true }
def runU : List Un → LS → LS
 | [], s => s
 | u :: l, s => if s.dn = true then s else runU l (uStep to_ wd wrap most s u)
def finS (s : LS) : LS := if s.dn = true then s else emitS to_ most s (if s.ov = true then s.f else endF s.f to_)
def allS (us : List Un) : LS := finS to_ most (runU to_ wd wrap most us ⟨[], to_, fil0 wd, false, false⟩)
def rowsM (us : List Un) : List RowV := tosX (allS to_ wd wrap most us).R (allS to_ wd wrap most us).x
end
def charsP (q : Prt) : Int → List Int → List (Int × Int × Prt)
 | _, [] => []
 | pos, c :: l => (c, pos, q) :: charsP q (if q.k = 0 then pos + 1 else pos) l
def charsM (l : List Prt) : List (Int × Int × Prt) := l.flatMap fun q => charsP q q.p (runes q.s)
def unitN (tab col : Nat) (c : Int) (q : Prt) : Nat := if c = 10 then 1 else if c = 9 then tab - col % tab else if cellsM c q = [] then 0 else 1
def unitX (c : Int) (q : Prt) : List Cel := if c = 10 then [] else if c = 9 then [⟨32, q.b, q.c, q.d, q.e, q.f⟩] else cellsM c q
def colN (tab col : Nat) (c : Int) (q : Prt) : Nat := (if c = 10 then 0 else col) + unitN tab col c q * (unitX c q).length
def unitsM (tab : Nat) : Nat → List (Int × Int × Prt) → List Un
 | _, [] => []
 | col, h :: l => List.replicate (unitN tab col h.1 h.2.2) ⟨unitX h.1 h.2.2, h.2.1, decide (h.1 = 10)⟩ ++ unitsM tab (colN tab col h.1 h.2.2) l
theorem charsM_at {l : List Prt} {i : Nat} (h : i < l.length) : charsM (l.drop i) = charsP (l.getD i default) (l.getD i default).p (runes (l.getD i default).s) ++ charsM (l.drop (i + 1)) := by
 rw [drop_get h]
 rfl
theorem cellsM_len (c : Int) (q : Prt) : (cellsM c q).length ≤ 2 := by
 unfold cellsM
 split
 ·exact Nat.le_refl _
 ·split
  ·exact Nat.zero_le _
  ·split
   ·exact Nat.le_refl _
   ·exact Nat.le_succ _
theorem unitX_len (c : Int) (q : Prt) : (unitX c q).length ≤ 2 := by
 unfold unitX
 split
 ·exact Nat.zero_le _
 ·split
  ·exact Nat.le_succ _
  ·exact cellsM_len c q
theorem tosX_len : ∀ (R : List RowV) (x : Int), (tosX R x).length = R.length
 | [], _ => rfl
 | [_], _ => rfl
 | r :: q :: l, x => by
  show (tosX (q :: l) x).length + 1 = _
  rw [tosX_len (q :: l) x]
  rfl
theorem tosX_snoc : ∀ (R : List RowV) (r : RowV) (x : Int), tosX (R ++ [r]) x = tosX R r.fr ++ [rto r x]
 | [], _, _ => rfl
 | [_], _, _ => rfl
 | a :: q :: l, r, x => by
  show _ :: tosX (q :: l ++ [r]) x = _ :: (tosX (q :: l) r.fr ++ _)
  rw [tosX_snoc (q :: l) r x]
def scV (wd : Nat) (b : Nat) : Value := .slice (some ⟨b, 0, none⟩) wd wd
def csB (wd : Nat) (B : List (Nat × Nat)) : List Value := B.map fun b => scV wd b.1
def psB (wd : Nat) (B : List (Nat × Nat)) : List Value := B.map fun b => scV wd b.2
def REs : List (Nat × Nat) → List RowV → List Ent
 | b :: B, r :: R => .at_ b.1 (.row ⟨cC r.C, 79, false⟩) :: .at_ b.2 (.row ⟨r.P.map (Value.int .i64), 3, false⟩) :: REs B R
 | _, _ => []
theorem REs_snoc : ∀ {B : List (Nat × Nat)} {R : List RowV} (b : Nat × Nat) (r : RowV), B.length = R.length → REs (B ++ [b]) (R ++ [r]) = REs B R ++ [.at_ b.1 (.row ⟨cC r.C, 79, false⟩), .at_ b.2 (.row ⟨r.P.map (Value.int .i64), 3, false⟩)]
 | [], [], _, _, _ => rfl
 | a :: B, x :: R, b, r, h => by
  show _ :: _ :: REs (B ++ [b]) (R ++ [r]) = _ :: _ :: (REs B R ++ _)
  rw [REs_snoc b r (by simpa using h)]
theorem RE_push {G : Nat} {A : Abs} {F : Nat → Option Blk2} {σ : Mem} {L X : List Ent} {B : List (Nat × Nat)} {R : List RowV} {bc bp : Nat} {r : RowV} (hB : B.length = R.length)
  (H : Lies G A F σ (.at_ bc (.row ⟨cC r.C, 79, false⟩) :: .at_ bp (.row ⟨r.P.map (Value.int .i64), 3, false⟩) :: (X ++ (REs B R ++ L)))) : Lies G A F σ (X ++ (REs (B ++ [(bc, bp)]) (R ++ [r]) ++ L)) := by
 rw [REs_snoc _ _ hB, List.append_assoc, ← List.append_assoc X]
 refine Lies.rot (B := [_, _]) (X := X ++ REs B R) ?_
 rw [List.append_assoc X]
 exact H
theorem csB_len (wd : Nat) (B : List (Nat × Nat)) : (csB wd B).length = B.length := List.length_map ..
theorem psB_len (wd : Nat) (B : List (Nat × Nat)) : (psB wd B).length = B.length := List.length_map ..
theorem rowsV_push {wd : Nat} {B : List (Nat × Nat)} {R : List RowV} {bc bp : Nat} {to_ : Int} {r : RowV} (hB : B.length = R.length) :
  rowsV (csB wd B) (psB wd B) (tosX R r.fr) ++ [scV wd bc, scV wd bp, .int .i64 r.fr, .int .i64 to_, .bool r.co] = rowsV (csB wd (B ++ [(bc, bp)])) (psB wd (B ++ [(bc, bp)])) (tosX (R ++ [r]) to_) := by
 have e := rowsV_app (cs := csB wd B) (ps := psB wd B) (l := tosX R r.fr) (scV wd bc) (scV wd bp) (rto r to_) (by rw [csB_len, tosX_len]; exact hB) (by rw [psB_len, tosX_len]; exact hB)
 rw [tosX_snoc]
 unfold csB psB at e ⊢
 rw [List.map_append, List.map_append]
 exact e.symm
theorem over_left (a b : List Value) (n : Nat) (xs : List Value) : overL (a ++ b) (a.length + n) xs = a ++ overL b n xs := by
 unfold overL
 rw [List.take_length_add_append, Nat.add_assoc, List.drop_length_add_append]
 simp only [List.append_assoc]
theorem rows_set {wd : Nat} : ∀ {B : List (Nat × Nat)} {R : List RowV} {x y : Int}, B.length = R.length → 0 < R.length → overL (rowsV (csB wd B) (psB wd B) (tosX R x)) ((R.length - 1) * 5 + 3) [.int .i64 y] = rowsV (csB wd B) (psB wd B) (tosX R y)
 | [_], [_], _, _, _, _ => rfl
 | [], [], _, _, _, h => absurd h (Nat.lt_irrefl _)
 | b :: c :: B, r :: q :: R, x, y, h, _ => by
  have e := rows_set (wd := wd) (B := c :: B) (R := q :: R) (x := x) (y := y) (by simpa using h) (by simp)
  have e2 : ((r :: q :: R).length - 1) * 5 + 3 = 5 + (((q :: R).length - 1) * 5 + 3) := by simp only [List.length_cons]; omega
  rw [e2]
  show overL ([scV wd b.1, scV wd b.2, .int .i64 r.fr, .int .i64 q.fr, .bool r.co] ++ rowsV (csB wd (c :: B)) (psB wd (c :: B)) (tosX (q :: R) x)) _ _ = [scV wd b.1, scV wd b.2, .int .i64 r.fr, .int .i64 q.fr, .bool r.co] ++ rowsV (csB wd (c :: B)) (psB wd (c :: B)) (tosX (q :: R) y)
  rw [← e]
  exact over_left [scV wd b.1, scV wd b.2, .int .i64 r.fr, .int .i64 q.fr, .bool r.co] _ _ _
section
variable {to_ : Int} {wd : Nat} {wrap : Bool} {most : Nat} {R : List RowV} {s : Fil} {X : List Cel} {pos x : Int} {l : List Un} {ov : Bool}
theorem run_dn {s : LS} (h : s.dn = true) : ∀ l, runU to_ wd wrap most l s = s
 | [] => rfl
 | _ :: _ => if_pos h
theorem run_cons (u : Un) : runU to_ wd wrap most (u :: l) ⟨R, x, s, ov, false⟩ = runU to_ wd wrap most l (uStep to_ wd wrap most ⟨R, x, s, ov, false⟩ u) := rfl
theorem emit_go (h : R.length ≠ most) (r : Fil) : emitS to_ most ⟨R, x, s, ov, false⟩ r = ⟨R ++ [rowOf r], to_, s, ov, false⟩ := if_neg h
theorem emit_stop (h : R.length = most) (r : Fil) : emitS to_ most ⟨R, x, s, ov, false⟩ r = ⟨R, r.fr, s, ov, true⟩ := if_pos h
theorem go_over : runU to_ wd wrap most (⟨X, pos, false⟩ :: l) ⟨R, to_, s, true, false⟩ = runU to_ wd wrap most l ⟨R, to_, s, true, false⟩ := rfl
theorem go_put (h : (putF wd s X pos).2 = true) : runU to_ wd wrap most (⟨X, pos, false⟩ :: l) ⟨R, to_, s, false, false⟩ = runU to_ wd wrap most l ⟨R, to_, (putF wd s X pos).1, false, false⟩ := by
 rw [run_cons]
 unfold uStep
 rw [if_neg Bool.false_ne_true, if_neg Bool.false_ne_true, if_pos h]
theorem go_cut (h : (putF wd s X pos).2 = false) (hw : wrap = false) : runU to_ wd wrap most (⟨X, pos, false⟩ :: l) ⟨R, to_, s, false, false⟩ = runU to_ wd wrap most l ⟨R, to_, markF s 36, true, false⟩ := by
 rw [run_cons]
 unfold uStep
 rw [if_neg Bool.false_ne_true, if_neg Bool.false_ne_true, if_neg (fun k => Bool.false_ne_true (h.symm.trans k)), if_neg (fun k => Bool.false_ne_true (hw.symm.trans k))]
theorem go_wrap (h : (putF wd s X pos).2 = false) (hw : wrap = true) (hn : R.length ≠ most) : runU to_ wd wrap most (⟨X, pos, false⟩ :: l) ⟨R, to_, s, false, false⟩ = runU to_ wd wrap most l ⟨R ++ [rowOf (wrapF s)], to_, (putF wd (fil0 wd) X pos).1, false, false⟩ := by
 rw [run_cons]
 unfold uStep
 rw [if_neg Bool.false_ne_true, if_neg Bool.false_ne_true, if_neg (fun k => Bool.false_ne_true (h.symm.trans k)), if_pos hw, emit_go hn, if_neg Bool.false_ne_true]
theorem stop_wrap (h : (putF wd s X pos).2 = false) (hw : wrap = true) (hn : R.length = most) : finS to_ most (runU to_ wd wrap most (⟨X, pos, false⟩ :: l) ⟨R, to_, s, false, false⟩) = ⟨R, s.fr, s, false, true⟩ := by
 rw [run_cons]
 unfold uStep
 rw [if_neg Bool.false_ne_true, if_neg Bool.false_ne_true, if_neg (fun k => Bool.false_ne_true (h.symm.trans k)), if_pos hw, emit_stop hn, if_pos rfl, run_dn rfl]
 rfl
theorem go_feed (hn : R.length ≠ most) : runU to_ wd wrap most (⟨X, pos, true⟩ :: l) ⟨R, to_, s, ov, false⟩ = runU to_ wd wrap most l ⟨R ++ [rowOf (if ov = true then s else endF s pos)], to_, fil0 wd, false, false⟩ := by
 rw [run_cons]
 unfold uStep
 rw [if_pos rfl, emit_go hn, if_neg Bool.false_ne_true]
theorem stop_feed (hn : R.length = most) : finS to_ most (runU to_ wd wrap most (⟨X, pos, true⟩ :: l) ⟨R, to_, s, ov, false⟩) = ⟨R, (if ov = true then s else endF s pos).fr, s, ov, true⟩ := by
 rw [run_cons]
 unfold uStep
 rw [if_pos rfl, emit_stop hn, if_pos rfl, run_dn rfl]
 rfl
theorem fin_go (hn : R.length ≠ most) : finS to_ most ⟨R, to_, s, ov, false⟩ = ⟨R ++ [rowOf (if ov = true then s else endF s to_)], to_, s, ov, false⟩ := by
 unfold finS
 rw [if_neg Bool.false_ne_true, emit_go hn]
theorem fin_stop (hn : R.length = most) : finS to_ most ⟨R, to_, s, ov, false⟩ = ⟨R, (if ov = true then s else endF s to_).fr, s, ov, true⟩ := by
 unfold finS
 rw [if_neg Bool.false_ne_true, emit_stop hn]
theorem ok_fil0 (h : 1 ≤ wd) : (fil0 wd).Ok wd := ⟨List.length_replicate .., List.length_replicate .., by show 0 < wd; omega⟩
theorem ok_end (h : s.Ok wd) : (endF s pos).Ok wd := ⟨h.1, (overC_len (by rw [h.2.1]; have := h.2.2; simp; omega)).trans h.2.1, h.2.2⟩
theorem markC_len (C : List Cel) (c : Int) : (markC C c).length = C.length := List.length_set ..
theorem ok_mark {c : Int} (h : s.Ok wd) : (markF s c).Ok wd := ⟨(markC_len _ _).trans h.1, h.2.1, h.2.2⟩
theorem ok_wrap (h : s.Ok wd) : (wrapF s).Ok wd := ⟨(markC_len _ _).trans h.1, h.2.1, h.2.2⟩
theorem ok_put (h : s.Ok wd) : (putF wd s X pos).1.Ok wd := by
 have h3 := h.2.2
 unfold putF
 split
 ·exact h
 ·exact ⟨(overC_len (by rw [h.1]; omega)).trans h.1, (overC_len (by rw [h.2.1, List.length_replicate]; omega)).trans h.2.1, by show s.n + X.length < wd; omega⟩
end
end Go.Proofs.YtmmapljeeccdnaaDoor
