/-
 The reference's Parse. Conditions: none.
-/
import Derived.Test.YthemeeiedlbhkaaDoorNem
namespace Go.Proofs.YthemeeiedlbhkaaDoor
open Go.Lib
set_option maxRecDepth 100000
theorem intz_x {l : List Int} {j : Nat} {i x : Int} (hx : x = l.getD j 0) (hi : i = ((j : Nat) : Int)) (h : j < l.length) : ((l.map (Value.int .i64)).drop (i.toNat * 1)).take 1 = [.int .i64 x] := hx ▸ intz_at hi h
theorem drop_x {R : List Int} {i : Nat} {x : Int} (h : i < R.length) (hx : x = R.getD i 0) : R.drop i = x :: R.drop (i + 1) := by
 rw [hx, List.getD_eq_getElem?_getD, List.getElem?_eq_getElem h, List.drop_eq_getElem_cons h]
 rfl
theorem take_x {R : List Int} {i : Nat} {x : Int} (h : i < R.length) (hx : x = R.getD i 0) : R.take (i + 1) = R.take i ++ [x] := by
 rw [hx, List.take_add_one, List.getD_eq_getElem?_getD, List.getElem?_eq_getElem h]
 rfl
theorem all_one {R : List Int} {i : Nat} {x : Int} {p : Int → Bool} (h : i < R.length) (hx : x = R.getD i 0) (ha : (R.take i).all p = true) (hp : p x = true) : (R.take (i + 1)).all p = true := by
 rw [take_x h hx, List.all_append, ha]
 simp [hp]
theorem has_snoc {R : List Int} {i : Nat} {x c : Int} (h : i < R.length) (hx : x = R.getD i 0) : (R.take (i + 1)).contains c = ((R.take i).contains c || x == c) := by
 rw [take_x h hx, Bool.eq_iff_iff, Bool.or_eq_true, List.contains_iff_mem, List.contains_iff_mem, List.mem_append, List.mem_singleton, beq_iff_eq]
 exact ⟨fun e => e.imp id Eq.symm, fun e => e.imp id Eq.symm⟩
theorem tw_take {p : Int → Bool} : ∀ {R : List Int} {i : Nat}, (R.take i).all p = true → (R.length ≤ i ∨ (i < R.length ∧ p (R.getD i 0) = false)) → R.takeWhile p = R.take i
 | [], i, _, _ => by simp
 | c :: R, 0, _, h => by
  rcases h with h | h
  ·exact absurd h (by simp)
  ·have h2 : p c = false := h.2
   rw [List.takeWhile_cons_of_neg (by rw [h2]; exact Bool.noConfusion)]
   rfl
 | c :: R, i + 1, ha, h => by
  rw [List.take_succ_cons, List.all_cons, Bool.and_eq_true] at ha
  rw [List.takeWhile_cons_of_pos ha.1, List.take_succ_cons, tw_take ha.2 (h.imp (fun h => by simpa using h) fun h => ⟨by simpa using h.1, by simpa using h.2⟩)]
theorem tw_end {s : List UInt8} {R : List Int} {i : Nat} (hR : R = runes s) (ha : (R.take i).all flagB = true) (h : R.length ≤ i ∨ (i < R.length ∧ flagB (R.getD i 0) = false)) : flagsR s = R.take i := by
 unfold flagsR
 rw [← hR]
 exact tw_take ha h
theorem no_snoc {R : List Int} {i k : Nat} {y : Int} (h : i + 1 ≤ k) (hk : k < R.length) (hno : (10 : Int) ∉ (R.drop (i + 1)).take (k - (i + 1))) (hy : y = R.getD k 0) (hn : y ≠ 10) : (10 : Int) ∉ (R.drop (i + 1)).take (k + 1 - (i + 1)) := by
 obtain ⟨d, rfl⟩ : ∃ d, k = i + 1 + d := ⟨k - (i + 1), by omega⟩
 rw [show i + 1 + d - (i + 1) = d by omega] at hno
 rw [show i + 1 + d + 1 - (i + 1) = d + 1 by omega, take_x (R := R.drop (i + 1)) (i := d) (x := y) (by rw [List.length_drop]; omega) (by rw [hy, List.getD_eq_getElem?_getD, List.getD_eq_getElem?_getD, List.getElem?_drop])]
 intro e
 rcases List.mem_append.1 e with e | e
 ·exact hno e
 ·exact hn (List.mem_singleton.1 e).symm
theorem line_step {T : List Need × Option Int} {acc : List Need} {R : List Int} {i k : Nat} {x : Int} (hi : i < R.length) (hik : i + 1 ≤ k) (hkl : k ≤ R.length) (hno : (10 : Int) ∉ (R.drop (i + 1)).take (k - (i + 1))) (hend : k = R.length ∨ R.getD k 0 = 10) (hx : x = R.getD i 0) (hc : x ∈ codeL) (hT : T = (acc ++ (needsG (R.drop i).length ((i : Nat) : Int) (R.drop i)).1, (needsG (R.drop i).length ((i : Nat) : Int) (R.drop i)).2)) : T = ((acc ++ [(x, encA ((R.drop (i + 1)).take (k - (i + 1))))]) ++ (needsG (R.drop (k + 1)).length ((k + 1 : Nat) : Int) (R.drop (k + 1))).1, (needsG (R.drop (k + 1)).length ((k + 1 : Nat) : Int) (R.drop (k + 1))).2) := by
 rw [drop_x hi hx] at hT
 have hsp : R.drop (i + 1) = (R.drop (i + 1)).take (k - (i + 1)) ++ R.drop k := by
  have e : R.drop k = (R.drop (i + 1)).drop (k - (i + 1)) := by rw [List.drop_drop, show i + 1 + (k - (i + 1)) = k by omega]
  rw [e, List.take_append_drop]
 have hlen : ((R.drop (i + 1)).take (k - (i + 1))).length = k - (i + 1) := by rw [List.length_take, List.length_drop]; omega
 generalize (R.drop (i + 1)).take (k - (i + 1)) = p at hsp hno hlen
 by_cases hk : k < R.length
 ·have h10 : R.getD k 0 = 10 := hend.resolve_left (by omega)
  rw [drop_x hk (x := 10) h10.symm] at hsp
  rw [hsp] at hT
  have := needs_snoc hT hc hno
  rw [this, hlen, show ((i : Nat) : Int) + ((k - (i + 1) + 2 : Nat) : Int) = ((k + 1 : Nat) : Int) by omega]
 ·rw [List.drop_eq_nil_of_le (show R.length ≤ k by omega), List.append_nil] at hsp
  rw [hsp] at hT
  rw [needs_done hT hc hno, List.drop_eq_nil_of_le (show R.length ≤ k + 1 by omega)]
  show _ = ((acc ++ [(x, encA p)]) ++ [], none)
  rw [List.append_nil]
theorem text_part {s : List UInt8} {R p : List Int} {i n : Nat} (hv : validD s = true) (hR : R = runes s) (hp : p = (R.drop i).take n) : textOf p = encA p := (text_yes (allCh_iff.2 fun c hc => valid_ch hv c (by rw [← hR]; rw [hp] at hc; exact List.mem_of_mem_drop (List.mem_of_mem_take hc)))).1
set_option maxHeartbeats 8000000 in
theorem rparse_wc {G : Nat} {A : Abs} {σ : Mem} {F : Nat → Option Blk2} {L : List Ent} {s : List UInt8} (hs : s.length ≤ 1000) (H : Lies G A F σ L) : WC G Tryd.prog 8 #[.string ⟨s.toArray⟩] σ fun v σ' => ∃ F' u, Le F F' ∧ v = .tuple #[.agg #[.bool (parseM s).1.w, .bool (parseM s).1.e, .bool (parseM s).1.h, u], .agg #[.int .i64 (parseM s).2.1, .int .i64 (parseM s).2.2]] ∧ SlF F' 2 u (parseM s).1.n.length (needC (parseM s).1.n) ∧ Lies G A F' σ' L := by
 cases hv : validD s with
 | false =>
  refine WC.enter (fn := Tryd.f8) Tryd.func8 rfl ?_
  refine W.rg [(0, .string ⟨s.toArray⟩)] fun TA => ?_
  refine W.seq (W.region ?_)
  refine RW.mk H (.row ⟨[.bool false, .bool false, .bool false, .slice none 0 0], 24, false⟩) ?_
  clear H; intro _ b1 _ H
  refine RW.mk H (.row ⟨[.int .i64 0, .int .i64 0], 33, false⟩) ?_
  clear H; intro _ b2 _ H
  refine RW.nil ?_
  refine W.rg [(0, .string ⟨s.toArray⟩), (2, .pointer (some ⟨b1, 0, none⟩)), (3, .pointer (some ⟨b2, 0, none⟩))] fun TA => ?_
  refine W.seq (W.region ?_)
  refine RW.mk H (.row ⟨[.bool false, .bool false, .bool false, .slice none 0 0], 24, false⟩) ?_
  clear H; intro _ b3 _ H
  refine RW.nil ?_
  refine W.rg [(0, .string ⟨s.toArray⟩), (2, .pointer (some ⟨b1, 0, none⟩)), (3, .pointer (some ⟨b2, 0, none⟩)), (4, .pointer (some ⟨b3, 0, none⟩))] fun TA => ?_
  refine W.seq (W.region ?_)
  refine RW.v ?_
  refine RW.cl ?_
  refine ⟨_, _, (s_listno (by omega) hv), ?_⟩
  iterate 5 refine RW.v ?_
  refine RW.nil ?_
  refine W.rg [(2, .pointer (some ⟨b1, 0, none⟩)), (3, .pointer (some ⟨b2, 0, none⟩)), (4, .pointer (some ⟨b3, 0, none⟩)), (5, .slice none 0 0), (6, .int .i64 5)] fun TA => ?_
  refine W.seq ?_
  refine W.seq (W.region ?_)
  iterate 2 refine RW.v ?_
  refine RW.nil ?_
  refine W.c1 ?_
  refine W.seq (W.region ?_)
  refine RW.ld H 0 4 ?_
  refine RW.val (v := .agg #[.int .i64 5, .int .i64 0]) (by kernel_rfl) (by kernel_rfl) (by kernel_rfl) (by kernel_rfl) ?_
  refine RW.st H 2 [.bool false, .bool false, .bool false, .slice none 0 0] [.bool false, .bool false, .bool false, .slice none 0 0] ?_
  clear H; intro _ _ H; dsimp only [setL, delL] at H
  refine RW.st H 1 [.int .i64 5, .int .i64 0] [.int .i64 5, .int .i64 0] ?_
  clear H; intro _ _ H; dsimp only [setL, delL] at H
  refine RW.nil ?_
  replace H := (H.del 0)
  dsimp only [setL, delL] at H
  refine W.ret ?_
  refine seqQ_ret ?_
  refine endG (by rfl) (by exact resL_cell rfl (H.get 1 rfl) (by rw [uT_eq]; exact Tryd.underlying24) (by kernel_rfl) rfl rfl (by exact resL_cell rfl (H.get 0 rfl) (by rw [uT_eq]; exact Tryd.underlying33) (by kernel_rfl) rfl rfl rfl)) ?_
  rw [parse_bad hv]
  exact ⟨F, _, fun _ _ h => h, rfl, .nil _ rfl, ((H.del 1).del 0)⟩
 | true =>
  obtain ⟨F0, hF⟩ : ∃ F0, F0 = F := ⟨_, rfl⟩
  rw [← hF]
  replace H : Lies G A F0 σ L := hF ▸ H
  clear hF
  obtain ⟨R, hR⟩ : ∃ R, R = runes s := ⟨_, rfl⟩
  have hRl : R.length ≤ 1000 := by rw [hR]; exact Nat.le_trans (runes_le s) hs
  have le0 : Le F0 F0 := fun _ _ h => h
  refine WC.enter (fn := Tryd.f8) Tryd.func8 rfl ?_
  refine W.rg [(0, .string ⟨s.toArray⟩)] fun TA => ?_
  refine W.seq (W.region ?_)
  refine RW.mk H (.row ⟨[.bool false, .bool false, .bool false, .slice none 0 0], 24, false⟩) ?_
  clear H; intro _ b1 _ H
  refine RW.mk H (.row ⟨[.int .i64 0, .int .i64 0], 33, false⟩) ?_
  clear H; intro _ b2 _ H
  refine RW.nil ?_
  refine W.rg [(0, .string ⟨s.toArray⟩), (2, .pointer (some ⟨b1, 0, none⟩)), (3, .pointer (some ⟨b2, 0, none⟩))] fun TA => ?_
  refine W.seq (W.region ?_)
  refine RW.mk H (.row ⟨[.bool false, .bool false, .bool false, .slice none 0 0], 24, false⟩) ?_
  clear H; intro _ b3 _ H
  refine RW.nil ?_
  refine W.rg [(0, .string ⟨s.toArray⟩), (2, .pointer (some ⟨b1, 0, none⟩)), (3, .pointer (some ⟨b2, 0, none⟩)), (4, .pointer (some ⟨b3, 0, none⟩))] fun TA => ?_
  refine W.seq (W.region ?_)
  refine RW.v ?_
  refine RW.cl ?_
  refine ((r_list (bs := s) hv (by omega) H).mono ?_)
  clear H
  rintro _ _ ⟨F, lv, le, rfl, hlv, H⟩
  replace le0 := fun b y h => le b y (le0 b y h)
  clear le
  rw [← hR] at hlv
  iterate 5 refine RW.v ?_
  refine RW.nil ?_
  refine W.rg [(2, .pointer (some ⟨b1, 0, none⟩)), (3, .pointer (some ⟨b2, 0, none⟩)), (4, .pointer (some ⟨b3, 0, none⟩)), (5, lv), (6, .int .i64 0)] fun TA => ?_
  refine W.seq ?_
  refine W.seq (W.region ?_)
  iterate 2 refine RW.v ?_
  refine RW.nil ?_
  refine W.c0 ?_
  refine W.skip ?_
  refine W.seq (W.region ?_)
  refine RW.v ?_
  refine RW.nil ?_
  refine W.rg [(2, .pointer (some ⟨b1, 0, none⟩)), (3, .pointer (some ⟨b2, 0, none⟩)), (4, .pointer (some ⟨b3, 0, none⟩)), (5, lv), (7, .int .i64 0)] fun TA => ?_
  refine W.join (fun ta σ => ∃ (i : Nat) (w : Bool) (e : Bool) (h : Bool), (flagsR s = R.take i) ∧ (i ≤ R.length) ∧ (w = (R.take i).contains 42) ∧ (e = (R.take i).contains 64) ∧ (h = (R.take i).contains 94) ∧ Lies G A F σ (.at_ b3 (.row ⟨[.bool w, .bool e, .bool h, .slice none 0 0], 24, false⟩) :: .at_ b2 (.row ⟨[.int .i64 0, .int .i64 0], 33, false⟩) :: .at_ b1 (.row ⟨[.bool false, .bool false, .bool false, .slice none 0 0], 24, false⟩) :: (L)) ∧ ta 2 = .pointer (some ⟨b1, 0, none⟩) ∧ ta 3 = .pointer (some ⟨b2, 0, none⟩) ∧ ta 4 = .pointer (some ⟨b3, 0, none⟩) ∧ ta 5 = lv ∧ ta 7 = .int .i64 ((i : Nat) : Int)) ?_ ?_
  ·refine W.block ?_
   refine W.loop (fun mm ta σ => ∃ (i : Nat) (w : Bool) (e : Bool) (h : Bool), (mm + i = R.length) ∧ ((R.take i).all flagB = true) ∧ (w = (R.take i).contains 42) ∧ (e = (R.take i).contains 64) ∧ (h = (R.take i).contains 94) ∧ Lies G A F σ (.at_ b3 (.row ⟨[.bool w, .bool e, .bool h, .slice none 0 0], 24, false⟩) :: .at_ b2 (.row ⟨[.int .i64 0, .int .i64 0], 33, false⟩) :: .at_ b1 (.row ⟨[.bool false, .bool false, .bool false, .slice none 0 0], 24, false⟩) :: (L)) ∧ ta 2 = .pointer (some ⟨b1, 0, none⟩) ∧ ta 3 = .pointer (some ⟨b2, 0, none⟩) ∧ ta 4 = .pointer (some ⟨b3, 0, none⟩) ∧ ta 5 = lv ∧ ta 7 = .int .i64 ((i : Nat) : Int)) R.length ?_ ?_
   ·exact ⟨0, false, false, false, (by omega), rfl, rfl, rfl, rfl, H, rfl, rfl, rfl, rfl, rfl⟩
   clear H
   rintro mm ta _ ⟨i, w, e, h, hm, hall, hw, he, hh, H, e2, e3, e4, e5, e7⟩
   refine W.rst [(2, .pointer (some ⟨b1, 0, none⟩)), (3, .pointer (some ⟨b2, 0, none⟩)), (4, .pointer (some ⟨b3, 0, none⟩)), (5, lv), (7, .int .i64 ((i : Nat) : Int))] ⟨e2, e3, e4, e5, e7, trivial⟩ fun TA => ?_
   clear e2 e3 e4 e5 e7
   obtain ⟨x, hx⟩ : ∃ x, x = R.getD i 0 := ⟨_, rfl⟩
   refine W.seq ?_
   refine W.seq (W.region ?_)
   iterate 2 refine RW.v ?_
   refine RW.len (by kernel_rfl) (by kernel_rfl) rfl rfl rfl rfl (hlv.slf.len (e := 3) (by kernel_rfl)) (by kernel_rfl) ?_
   iterate 2 refine RW.v ?_
   refine RW.both _ _ rfl rfl rfl (fun hc4 => ?_) (fun hc4 => ?_)
   ·have hc4b := hc4
    have hc4 := of_decide_eq_true hc4
    have hir : i < R.length := by omega
    iterate 2 refine RW.w ?_
    refine RW.idxF hlv.slf (by rfl) (by kernel_rfl) rfl Tryd.underlying48 (by kernel_rfl) rfl rfl ⟨by omega, by omega⟩ (by kernel_rfl) ?_
    intro b5 q6 r7 hF8 hE9
    rw [intz_x (l := R) (j := i) (i := ((i : Nat) : Int)) hx (by omega) (by omega)] at hE9
    refine RW.loads 1 (by rfl) (by kernel_rfl) rfl rfl (H.old _ _ hF8) hE9 rfl (by kernel_rfl) ?_
    iterate 2 refine RW.w ?_
    refine RW.both _ _ rfl rfl rfl (fun hc10 => ?_) (fun hc10 => ?_)
    ·have hc10b := hc10
     have hc10 := eq_of_beq hc10
     iterate 5 refine RW.s ?_
     iterate 2 refine RW.w ?_
     iterate 5 refine RW.s ?_
     refine RW.w ?_
     refine RW.v ?_
     refine RW.nil ?_
     refine W.c1 ?_
     refine W.skip ?_
     refine W.block ?_
     refine W.seq (W.region ?_)
     refine RW.v ?_
     refine RW.ld H 0 1 ?_
     refine RW.v ?_
     refine RW.both _ _ rfl rfl rfl (fun hc11 => ?_) (fun hc11 => ?_)
     ·have hc11b := hc11
      iterate 5 refine RW.s ?_
      iterate 2 refine RW.v ?_
      refine RW.st H 0 [.bool true] [.bool true, .bool e, .bool h, .slice none 0 0] ?_
      clear H; intro _ _ H; dsimp only [setL, delL] at H
      refine RW.nil ?_
      refine W.rg [(2, .pointer (some ⟨b1, 0, none⟩)), (3, .pointer (some ⟨b2, 0, none⟩)), (4, .pointer (some ⟨b3, 0, none⟩)), (5, lv), (7, .int .i64 ((i : Nat) : Int))] fun TA => ?_
      refine W.seq (W.region ?_)
      refine RW.v ?_
      refine RW.ld H 0 1 ?_
      refine RW.v ?_
      refine RW.both _ _ rfl rfl rfl (fun hc12 => ?_) (fun hc12 => ?_)
      ·have hc12b := hc12
       iterate 5 refine RW.s ?_
       iterate 2 refine RW.v ?_
       refine RW.st H 0 [.bool true] [.bool true, .bool true, .bool h, .slice none 0 0] ?_
       clear H; intro _ _ H; dsimp only [setL, delL] at H
       refine RW.nil ?_
       refine W.rg [(2, .pointer (some ⟨b1, 0, none⟩)), (3, .pointer (some ⟨b2, 0, none⟩)), (4, .pointer (some ⟨b3, 0, none⟩)), (5, lv), (7, .int .i64 ((i : Nat) : Int))] fun TA => ?_
       refine W.seq (W.region ?_)
       refine RW.v ?_
       refine RW.ld H 0 1 ?_
       refine RW.v ?_
       refine RW.both _ _ rfl rfl rfl (fun hc13 => ?_) (fun hc13 => ?_)
       ·have hc13b := hc13
        iterate 5 refine RW.s ?_
        iterate 2 refine RW.v ?_
        refine RW.st H 0 [.bool true] [.bool true, .bool true, .bool true, .slice none 0 0] ?_
        clear H; intro _ _ H; dsimp only [setL, delL] at H
        refine RW.nil ?_
        refine W.rg [(2, .pointer (some ⟨b1, 0, none⟩)), (3, .pointer (some ⟨b2, 0, none⟩)), (4, .pointer (some ⟨b3, 0, none⟩)), (5, lv), (7, .int .i64 ((i : Nat) : Int))] fun TA => ?_
        refine W.region ?_
        refine RW.v ?_
        refine RW.valE (v' := .int .i64 (((i + 1) : Nat) : Int)) (by kernel_rfl) (by kernel_rfl) rfl (congrArg (Value.int .i64) ((wrap_in (by omega) (by omega)).trans (by omega))) (by kernel_rfl) ?_
        refine RW.v ?_
        refine RW.nil ?_
        refine blkQ_normal ?_
        exact ⟨rfl, mm - 1, by omega, i + 1, true, true, true, (by omega), (all_one hir hx hall (by rw [hc10]; decide)), (by rw [has_snoc hir hx, ← hw, hc11]; rfl), (by rw [has_snoc hir hx, ← he, hc12]; rfl), (by rw [has_snoc hir hx, ← hh, hc13]; rfl), H, rfl, rfl, rfl, rfl, rfl⟩
       ·have hc13b := hc13
        iterate 2 refine RW.w ?_
        refine RW.idxF hlv.slf (by rfl) (by kernel_rfl) rfl Tryd.underlying48 (by kernel_rfl) rfl rfl ⟨by omega, by omega⟩ (by kernel_rfl) ?_
        intro b14 q15 r16 hF17 hE18
        rw [intz_x (l := R) (j := i) (i := ((i : Nat) : Int)) hx (by omega) (by omega)] at hE18
        refine RW.loads 1 (by rfl) (by kernel_rfl) rfl rfl (H.old _ _ hF17) hE18 rfl (by kernel_rfl) ?_
        refine RW.w ?_
        iterate 2 refine RW.v ?_
        refine RW.st H 0 [.bool (x == 94)] [.bool true, .bool true, .bool (x == 94), .slice none 0 0] ?_
        clear H; intro _ _ H; dsimp only [setL, delL] at H
        refine RW.nil ?_
        refine W.rg [(2, .pointer (some ⟨b1, 0, none⟩)), (3, .pointer (some ⟨b2, 0, none⟩)), (4, .pointer (some ⟨b3, 0, none⟩)), (5, lv), (7, .int .i64 ((i : Nat) : Int))] fun TA => ?_
        refine W.region ?_
        refine RW.v ?_
        refine RW.valE (v' := .int .i64 (((i + 1) : Nat) : Int)) (by kernel_rfl) (by kernel_rfl) rfl (congrArg (Value.int .i64) ((wrap_in (by omega) (by omega)).trans (by omega))) (by kernel_rfl) ?_
        refine RW.v ?_
        refine RW.nil ?_
        refine blkQ_normal ?_
        exact ⟨rfl, mm - 1, by omega, i + 1, true, true, x == 94, (by omega), (all_one hir hx hall (by rw [hc10]; decide)), (by rw [has_snoc hir hx, ← hw, hc11]; rfl), (by rw [has_snoc hir hx, ← he, hc12]; rfl), (by rw [has_snoc hir hx, ← hh, hc13]; exact (Bool.false_or _).symm), H, rfl, rfl, rfl, rfl, rfl⟩
      ·have hc12b := hc12
       iterate 2 refine RW.w ?_
       refine RW.idxF hlv.slf (by rfl) (by kernel_rfl) rfl Tryd.underlying48 (by kernel_rfl) rfl rfl ⟨by omega, by omega⟩ (by kernel_rfl) ?_
       intro b19 q20 r21 hF22 hE23
       rw [intz_x (l := R) (j := i) (i := ((i : Nat) : Int)) hx (by omega) (by omega)] at hE23
       refine RW.loads 1 (by rfl) (by kernel_rfl) rfl rfl (H.old _ _ hF22) hE23 rfl (by kernel_rfl) ?_
       refine RW.w ?_
       iterate 2 refine RW.v ?_
       refine RW.st H 0 [.bool (x == 64)] [.bool true, .bool (x == 64), .bool h, .slice none 0 0] ?_
       clear H; intro _ _ H; dsimp only [setL, delL] at H
       refine RW.nil ?_
       refine W.rg [(2, .pointer (some ⟨b1, 0, none⟩)), (3, .pointer (some ⟨b2, 0, none⟩)), (4, .pointer (some ⟨b3, 0, none⟩)), (5, lv), (7, .int .i64 ((i : Nat) : Int))] fun TA => ?_
       refine W.seq (W.region ?_)
       refine RW.v ?_
       refine RW.ld H 0 1 ?_
       refine RW.v ?_
       refine RW.both _ _ rfl rfl rfl (fun hc24 => ?_) (fun hc24 => ?_)
       ·have hc24b := hc24
        iterate 5 refine RW.s ?_
        iterate 2 refine RW.v ?_
        refine RW.st H 0 [.bool true] [.bool true, .bool (x == 64), .bool true, .slice none 0 0] ?_
        clear H; intro _ _ H; dsimp only [setL, delL] at H
        refine RW.nil ?_
        refine W.rg [(2, .pointer (some ⟨b1, 0, none⟩)), (3, .pointer (some ⟨b2, 0, none⟩)), (4, .pointer (some ⟨b3, 0, none⟩)), (5, lv), (7, .int .i64 ((i : Nat) : Int))] fun TA => ?_
        refine W.region ?_
        refine RW.v ?_
        refine RW.valE (v' := .int .i64 (((i + 1) : Nat) : Int)) (by kernel_rfl) (by kernel_rfl) rfl (congrArg (Value.int .i64) ((wrap_in (by omega) (by omega)).trans (by omega))) (by kernel_rfl) ?_
        refine RW.v ?_
        refine RW.nil ?_
        refine blkQ_normal ?_
        exact ⟨rfl, mm - 1, by omega, i + 1, true, x == 64, true, (by omega), (all_one hir hx hall (by rw [hc10]; decide)), (by rw [has_snoc hir hx, ← hw, hc11]; rfl), (by rw [has_snoc hir hx, ← he, hc12]; exact (Bool.false_or _).symm), (by rw [has_snoc hir hx, ← hh, hc24]; rfl), H, rfl, rfl, rfl, rfl, rfl⟩
       ·have hc24b := hc24
        iterate 2 refine RW.w ?_
        refine RW.idxF hlv.slf (by rfl) (by kernel_rfl) rfl Tryd.underlying48 (by kernel_rfl) rfl rfl ⟨by omega, by omega⟩ (by kernel_rfl) ?_
        intro b25 q26 r27 hF28 hE29
        rw [intz_x (l := R) (j := i) (i := ((i : Nat) : Int)) hx (by omega) (by omega)] at hE29
        refine RW.loads 1 (by rfl) (by kernel_rfl) rfl rfl (H.old _ _ hF28) hE29 rfl (by kernel_rfl) ?_
        refine RW.w ?_
        iterate 2 refine RW.v ?_
        refine RW.st H 0 [.bool (x == 94)] [.bool true, .bool (x == 64), .bool (x == 94), .slice none 0 0] ?_
        clear H; intro _ _ H; dsimp only [setL, delL] at H
        refine RW.nil ?_
        refine W.rg [(2, .pointer (some ⟨b1, 0, none⟩)), (3, .pointer (some ⟨b2, 0, none⟩)), (4, .pointer (some ⟨b3, 0, none⟩)), (5, lv), (7, .int .i64 ((i : Nat) : Int))] fun TA => ?_
        refine W.region ?_
        refine RW.v ?_
        refine RW.valE (v' := .int .i64 (((i + 1) : Nat) : Int)) (by kernel_rfl) (by kernel_rfl) rfl (congrArg (Value.int .i64) ((wrap_in (by omega) (by omega)).trans (by omega))) (by kernel_rfl) ?_
        refine RW.v ?_
        refine RW.nil ?_
        refine blkQ_normal ?_
        exact ⟨rfl, mm - 1, by omega, i + 1, true, x == 64, x == 94, (by omega), (all_one hir hx hall (by rw [hc10]; decide)), (by rw [has_snoc hir hx, ← hw, hc11]; rfl), (by rw [has_snoc hir hx, ← he, hc12]; exact (Bool.false_or _).symm), (by rw [has_snoc hir hx, ← hh, hc24]; exact (Bool.false_or _).symm), H, rfl, rfl, rfl, rfl, rfl⟩
     ·have hc11b := hc11
      iterate 2 refine RW.w ?_
      refine RW.idxF hlv.slf (by rfl) (by kernel_rfl) rfl Tryd.underlying48 (by kernel_rfl) rfl rfl ⟨by omega, by omega⟩ (by kernel_rfl) ?_
      intro b30 q31 r32 hF33 hE34
      rw [intz_x (l := R) (j := i) (i := ((i : Nat) : Int)) hx (by omega) (by omega)] at hE34
      refine RW.loads 1 (by rfl) (by kernel_rfl) rfl rfl (H.old _ _ hF33) hE34 rfl (by kernel_rfl) ?_
      refine RW.valE (v' := .bool true) (by rfl) (by kernel_rfl) rfl (congrArg Value.bool (beq_iff_eq.2 (by omega))) (by kernel_rfl) ?_
      iterate 2 refine RW.v ?_
      refine RW.st H 0 [.bool true] [.bool true, .bool e, .bool h, .slice none 0 0] ?_
      clear H; intro _ _ H; dsimp only [setL, delL] at H
      refine RW.nil ?_
      refine W.rg [(2, .pointer (some ⟨b1, 0, none⟩)), (3, .pointer (some ⟨b2, 0, none⟩)), (4, .pointer (some ⟨b3, 0, none⟩)), (5, lv), (7, .int .i64 ((i : Nat) : Int))] fun TA => ?_
      refine W.seq (W.region ?_)
      refine RW.v ?_
      refine RW.ld H 0 1 ?_
      refine RW.v ?_
      refine RW.both _ _ rfl rfl rfl (fun hc35 => ?_) (fun hc35 => ?_)
      ·have hc35b := hc35
       iterate 5 refine RW.s ?_
       iterate 2 refine RW.v ?_
       refine RW.st H 0 [.bool true] [.bool true, .bool true, .bool h, .slice none 0 0] ?_
       clear H; intro _ _ H; dsimp only [setL, delL] at H
       refine RW.nil ?_
       refine W.rg [(2, .pointer (some ⟨b1, 0, none⟩)), (3, .pointer (some ⟨b2, 0, none⟩)), (4, .pointer (some ⟨b3, 0, none⟩)), (5, lv), (7, .int .i64 ((i : Nat) : Int))] fun TA => ?_
       refine W.seq (W.region ?_)
       refine RW.v ?_
       refine RW.ld H 0 1 ?_
       refine RW.v ?_
       refine RW.both _ _ rfl rfl rfl (fun hc36 => ?_) (fun hc36 => ?_)
       ·have hc36b := hc36
        iterate 5 refine RW.s ?_
        iterate 2 refine RW.v ?_
        refine RW.st H 0 [.bool true] [.bool true, .bool true, .bool true, .slice none 0 0] ?_
        clear H; intro _ _ H; dsimp only [setL, delL] at H
        refine RW.nil ?_
        refine W.rg [(2, .pointer (some ⟨b1, 0, none⟩)), (3, .pointer (some ⟨b2, 0, none⟩)), (4, .pointer (some ⟨b3, 0, none⟩)), (5, lv), (7, .int .i64 ((i : Nat) : Int))] fun TA => ?_
        refine W.region ?_
        refine RW.v ?_
        refine RW.valE (v' := .int .i64 (((i + 1) : Nat) : Int)) (by kernel_rfl) (by kernel_rfl) rfl (congrArg (Value.int .i64) ((wrap_in (by omega) (by omega)).trans (by omega))) (by kernel_rfl) ?_
        refine RW.v ?_
        refine RW.nil ?_
        refine blkQ_normal ?_
        exact ⟨rfl, mm - 1, by omega, i + 1, true, true, true, (by omega), (all_one hir hx hall (by rw [hc10]; decide)), (by rw [has_snoc hir hx, ← hw, hc11]; exact ((Bool.false_or _).trans (beq_iff_eq.2 hc10)).symm), (by rw [has_snoc hir hx, ← he, hc35]; rfl), (by rw [has_snoc hir hx, ← hh, hc36]; rfl), H, rfl, rfl, rfl, rfl, rfl⟩
       ·have hc36b := hc36
        iterate 2 refine RW.w ?_
        refine RW.idxF hlv.slf (by rfl) (by kernel_rfl) rfl Tryd.underlying48 (by kernel_rfl) rfl rfl ⟨by omega, by omega⟩ (by kernel_rfl) ?_
        intro b37 q38 r39 hF40 hE41
        rw [intz_x (l := R) (j := i) (i := ((i : Nat) : Int)) hx (by omega) (by omega)] at hE41
        refine RW.loads 1 (by rfl) (by kernel_rfl) rfl rfl (H.old _ _ hF40) hE41 rfl (by kernel_rfl) ?_
        refine RW.w ?_
        iterate 2 refine RW.v ?_
        refine RW.st H 0 [.bool (x == 94)] [.bool true, .bool true, .bool (x == 94), .slice none 0 0] ?_
        clear H; intro _ _ H; dsimp only [setL, delL] at H
        refine RW.nil ?_
        refine W.rg [(2, .pointer (some ⟨b1, 0, none⟩)), (3, .pointer (some ⟨b2, 0, none⟩)), (4, .pointer (some ⟨b3, 0, none⟩)), (5, lv), (7, .int .i64 ((i : Nat) : Int))] fun TA => ?_
        refine W.region ?_
        refine RW.v ?_
        refine RW.valE (v' := .int .i64 (((i + 1) : Nat) : Int)) (by kernel_rfl) (by kernel_rfl) rfl (congrArg (Value.int .i64) ((wrap_in (by omega) (by omega)).trans (by omega))) (by kernel_rfl) ?_
        refine RW.v ?_
        refine RW.nil ?_
        refine blkQ_normal ?_
        exact ⟨rfl, mm - 1, by omega, i + 1, true, true, x == 94, (by omega), (all_one hir hx hall (by rw [hc10]; decide)), (by rw [has_snoc hir hx, ← hw, hc11]; exact ((Bool.false_or _).trans (beq_iff_eq.2 hc10)).symm), (by rw [has_snoc hir hx, ← he, hc35]; rfl), (by rw [has_snoc hir hx, ← hh, hc36]; exact (Bool.false_or _).symm), H, rfl, rfl, rfl, rfl, rfl⟩
      ·have hc35b := hc35
       iterate 2 refine RW.w ?_
       refine RW.idxF hlv.slf (by rfl) (by kernel_rfl) rfl Tryd.underlying48 (by kernel_rfl) rfl rfl ⟨by omega, by omega⟩ (by kernel_rfl) ?_
       intro b42 q43 r44 hF45 hE46
       rw [intz_x (l := R) (j := i) (i := ((i : Nat) : Int)) hx (by omega) (by omega)] at hE46
       refine RW.loads 1 (by rfl) (by kernel_rfl) rfl rfl (H.old _ _ hF45) hE46 rfl (by kernel_rfl) ?_
       refine RW.w ?_
       iterate 2 refine RW.v ?_
       refine RW.st H 0 [.bool (x == 64)] [.bool true, .bool (x == 64), .bool h, .slice none 0 0] ?_
       clear H; intro _ _ H; dsimp only [setL, delL] at H
       refine RW.nil ?_
       refine W.rg [(2, .pointer (some ⟨b1, 0, none⟩)), (3, .pointer (some ⟨b2, 0, none⟩)), (4, .pointer (some ⟨b3, 0, none⟩)), (5, lv), (7, .int .i64 ((i : Nat) : Int))] fun TA => ?_
       refine W.seq (W.region ?_)
       refine RW.v ?_
       refine RW.ld H 0 1 ?_
       refine RW.v ?_
       refine RW.both _ _ rfl rfl rfl (fun hc47 => ?_) (fun hc47 => ?_)
       ·have hc47b := hc47
        iterate 5 refine RW.s ?_
        iterate 2 refine RW.v ?_
        refine RW.st H 0 [.bool true] [.bool true, .bool (x == 64), .bool true, .slice none 0 0] ?_
        clear H; intro _ _ H; dsimp only [setL, delL] at H
        refine RW.nil ?_
        refine W.rg [(2, .pointer (some ⟨b1, 0, none⟩)), (3, .pointer (some ⟨b2, 0, none⟩)), (4, .pointer (some ⟨b3, 0, none⟩)), (5, lv), (7, .int .i64 ((i : Nat) : Int))] fun TA => ?_
        refine W.region ?_
        refine RW.v ?_
        refine RW.valE (v' := .int .i64 (((i + 1) : Nat) : Int)) (by kernel_rfl) (by kernel_rfl) rfl (congrArg (Value.int .i64) ((wrap_in (by omega) (by omega)).trans (by omega))) (by kernel_rfl) ?_
        refine RW.v ?_
        refine RW.nil ?_
        refine blkQ_normal ?_
        exact ⟨rfl, mm - 1, by omega, i + 1, true, x == 64, true, (by omega), (all_one hir hx hall (by rw [hc10]; decide)), (by rw [has_snoc hir hx, ← hw, hc11]; exact ((Bool.false_or _).trans (beq_iff_eq.2 hc10)).symm), (by rw [has_snoc hir hx, ← he, hc35]; exact (Bool.false_or _).symm), (by rw [has_snoc hir hx, ← hh, hc47]; rfl), H, rfl, rfl, rfl, rfl, rfl⟩
       ·have hc47b := hc47
        iterate 2 refine RW.w ?_
        refine RW.idxF hlv.slf (by rfl) (by kernel_rfl) rfl Tryd.underlying48 (by kernel_rfl) rfl rfl ⟨by omega, by omega⟩ (by kernel_rfl) ?_
        intro b48 q49 r50 hF51 hE52
        rw [intz_x (l := R) (j := i) (i := ((i : Nat) : Int)) hx (by omega) (by omega)] at hE52
        refine RW.loads 1 (by rfl) (by kernel_rfl) rfl rfl (H.old _ _ hF51) hE52 rfl (by kernel_rfl) ?_
        refine RW.w ?_
        iterate 2 refine RW.v ?_
        refine RW.st H 0 [.bool (x == 94)] [.bool true, .bool (x == 64), .bool (x == 94), .slice none 0 0] ?_
        clear H; intro _ _ H; dsimp only [setL, delL] at H
        refine RW.nil ?_
        refine W.rg [(2, .pointer (some ⟨b1, 0, none⟩)), (3, .pointer (some ⟨b2, 0, none⟩)), (4, .pointer (some ⟨b3, 0, none⟩)), (5, lv), (7, .int .i64 ((i : Nat) : Int))] fun TA => ?_
        refine W.region ?_
        refine RW.v ?_
        refine RW.valE (v' := .int .i64 (((i + 1) : Nat) : Int)) (by kernel_rfl) (by kernel_rfl) rfl (congrArg (Value.int .i64) ((wrap_in (by omega) (by omega)).trans (by omega))) (by kernel_rfl) ?_
        refine RW.v ?_
        refine RW.nil ?_
        refine blkQ_normal ?_
        exact ⟨rfl, mm - 1, by omega, i + 1, true, x == 64, x == 94, (by omega), (all_one hir hx hall (by rw [hc10]; decide)), (by rw [has_snoc hir hx, ← hw, hc11]; exact ((Bool.false_or _).trans (beq_iff_eq.2 hc10)).symm), (by rw [has_snoc hir hx, ← he, hc35]; exact (Bool.false_or _).symm), (by rw [has_snoc hir hx, ← hh, hc47]; exact (Bool.false_or _).symm), H, rfl, rfl, rfl, rfl, rfl⟩
    ·have hc10b := hc10
     have hc10 := ne_of_beq_false hc10
     iterate 2 refine RW.w ?_
     refine RW.idxF hlv.slf (by rfl) (by kernel_rfl) rfl Tryd.underlying48 (by kernel_rfl) rfl rfl ⟨by omega, by omega⟩ (by kernel_rfl) ?_
     intro b53 q54 r55 hF56 hE57
     rw [intz_x (l := R) (j := i) (i := ((i : Nat) : Int)) hx (by omega) (by omega)] at hE57
     refine RW.loads 1 (by rfl) (by kernel_rfl) rfl rfl (H.old _ _ hF56) hE57 rfl (by kernel_rfl) ?_
     iterate 3 refine RW.w ?_
     refine RW.both _ _ rfl rfl rfl (fun hc58 => ?_) (fun hc58 => ?_)
     ·have hc58b := hc58
      have hc58 := eq_of_beq hc58
      iterate 5 refine RW.s ?_
      refine RW.w ?_
      refine RW.v ?_
      refine RW.nil ?_
      refine W.c1 ?_
      refine W.skip ?_
      refine W.block ?_
      refine W.seq (W.region ?_)
      refine RW.v ?_
      refine RW.ld H 0 1 ?_
      refine RW.v ?_
      refine RW.both _ _ rfl rfl rfl (fun hc59 => ?_) (fun hc59 => ?_)
      ·have hc59b := hc59
       iterate 5 refine RW.s ?_
       iterate 2 refine RW.v ?_
       refine RW.st H 0 [.bool true] [.bool true, .bool e, .bool h, .slice none 0 0] ?_
       clear H; intro _ _ H; dsimp only [setL, delL] at H
       refine RW.nil ?_
       refine W.rg [(2, .pointer (some ⟨b1, 0, none⟩)), (3, .pointer (some ⟨b2, 0, none⟩)), (4, .pointer (some ⟨b3, 0, none⟩)), (5, lv), (7, .int .i64 ((i : Nat) : Int))] fun TA => ?_
       refine W.seq (W.region ?_)
       refine RW.v ?_
       refine RW.ld H 0 1 ?_
       refine RW.v ?_
       refine RW.both _ _ rfl rfl rfl (fun hc60 => ?_) (fun hc60 => ?_)
       ·have hc60b := hc60
        iterate 5 refine RW.s ?_
        iterate 2 refine RW.v ?_
        refine RW.st H 0 [.bool true] [.bool true, .bool true, .bool h, .slice none 0 0] ?_
        clear H; intro _ _ H; dsimp only [setL, delL] at H
        refine RW.nil ?_
        refine W.rg [(2, .pointer (some ⟨b1, 0, none⟩)), (3, .pointer (some ⟨b2, 0, none⟩)), (4, .pointer (some ⟨b3, 0, none⟩)), (5, lv), (7, .int .i64 ((i : Nat) : Int))] fun TA => ?_
        refine W.seq (W.region ?_)
        refine RW.v ?_
        refine RW.ld H 0 1 ?_
        refine RW.v ?_
        refine RW.both _ _ rfl rfl rfl (fun hc61 => ?_) (fun hc61 => ?_)
        ·have hc61b := hc61
         iterate 5 refine RW.s ?_
         iterate 2 refine RW.v ?_
         refine RW.st H 0 [.bool true] [.bool true, .bool true, .bool true, .slice none 0 0] ?_
         clear H; intro _ _ H; dsimp only [setL, delL] at H
         refine RW.nil ?_
         refine W.rg [(2, .pointer (some ⟨b1, 0, none⟩)), (3, .pointer (some ⟨b2, 0, none⟩)), (4, .pointer (some ⟨b3, 0, none⟩)), (5, lv), (7, .int .i64 ((i : Nat) : Int))] fun TA => ?_
         refine W.region ?_
         refine RW.v ?_
         refine RW.valE (v' := .int .i64 (((i + 1) : Nat) : Int)) (by kernel_rfl) (by kernel_rfl) rfl (congrArg (Value.int .i64) ((wrap_in (by omega) (by omega)).trans (by omega))) (by kernel_rfl) ?_
         refine RW.v ?_
         refine RW.nil ?_
         refine blkQ_normal ?_
         exact ⟨rfl, mm - 1, by omega, i + 1, true, true, true, (by omega), (all_one hir hx hall (by rw [hc58]; decide)), (by rw [has_snoc hir hx, ← hw, hc59]; rfl), (by rw [has_snoc hir hx, ← he, hc60]; rfl), (by rw [has_snoc hir hx, ← hh, hc61]; rfl), H, rfl, rfl, rfl, rfl, rfl⟩
        ·have hc61b := hc61
         iterate 2 refine RW.w ?_
         refine RW.idxF hlv.slf (by rfl) (by kernel_rfl) rfl Tryd.underlying48 (by kernel_rfl) rfl rfl ⟨by omega, by omega⟩ (by kernel_rfl) ?_
         intro b62 q63 r64 hF65 hE66
         rw [intz_x (l := R) (j := i) (i := ((i : Nat) : Int)) hx (by omega) (by omega)] at hE66
         refine RW.loads 1 (by rfl) (by kernel_rfl) rfl rfl (H.old _ _ hF65) hE66 rfl (by kernel_rfl) ?_
         refine RW.w ?_
         iterate 2 refine RW.v ?_
         refine RW.st H 0 [.bool (x == 94)] [.bool true, .bool true, .bool (x == 94), .slice none 0 0] ?_
         clear H; intro _ _ H; dsimp only [setL, delL] at H
         refine RW.nil ?_
         refine W.rg [(2, .pointer (some ⟨b1, 0, none⟩)), (3, .pointer (some ⟨b2, 0, none⟩)), (4, .pointer (some ⟨b3, 0, none⟩)), (5, lv), (7, .int .i64 ((i : Nat) : Int))] fun TA => ?_
         refine W.region ?_
         refine RW.v ?_
         refine RW.valE (v' := .int .i64 (((i + 1) : Nat) : Int)) (by kernel_rfl) (by kernel_rfl) rfl (congrArg (Value.int .i64) ((wrap_in (by omega) (by omega)).trans (by omega))) (by kernel_rfl) ?_
         refine RW.v ?_
         refine RW.nil ?_
         refine blkQ_normal ?_
         exact ⟨rfl, mm - 1, by omega, i + 1, true, true, x == 94, (by omega), (all_one hir hx hall (by rw [hc58]; decide)), (by rw [has_snoc hir hx, ← hw, hc59]; rfl), (by rw [has_snoc hir hx, ← he, hc60]; rfl), (by rw [has_snoc hir hx, ← hh, hc61]; exact (Bool.false_or _).symm), H, rfl, rfl, rfl, rfl, rfl⟩
       ·have hc60b := hc60
        iterate 2 refine RW.w ?_
        refine RW.idxF hlv.slf (by rfl) (by kernel_rfl) rfl Tryd.underlying48 (by kernel_rfl) rfl rfl ⟨by omega, by omega⟩ (by kernel_rfl) ?_
        intro b67 q68 r69 hF70 hE71
        rw [intz_x (l := R) (j := i) (i := ((i : Nat) : Int)) hx (by omega) (by omega)] at hE71
        refine RW.loads 1 (by rfl) (by kernel_rfl) rfl rfl (H.old _ _ hF70) hE71 rfl (by kernel_rfl) ?_
        refine RW.valE (v' := .bool true) (by rfl) (by kernel_rfl) rfl (congrArg Value.bool (beq_iff_eq.2 (by omega))) (by kernel_rfl) ?_
        iterate 2 refine RW.v ?_
        refine RW.st H 0 [.bool true] [.bool true, .bool true, .bool h, .slice none 0 0] ?_
        clear H; intro _ _ H; dsimp only [setL, delL] at H
        refine RW.nil ?_
        refine W.rg [(2, .pointer (some ⟨b1, 0, none⟩)), (3, .pointer (some ⟨b2, 0, none⟩)), (4, .pointer (some ⟨b3, 0, none⟩)), (5, lv), (7, .int .i64 ((i : Nat) : Int))] fun TA => ?_
        refine W.seq (W.region ?_)
        refine RW.v ?_
        refine RW.ld H 0 1 ?_
        refine RW.v ?_
        refine RW.both _ _ rfl rfl rfl (fun hc72 => ?_) (fun hc72 => ?_)
        ·have hc72b := hc72
         iterate 5 refine RW.s ?_
         iterate 2 refine RW.v ?_
         refine RW.st H 0 [.bool true] [.bool true, .bool true, .bool true, .slice none 0 0] ?_
         clear H; intro _ _ H; dsimp only [setL, delL] at H
         refine RW.nil ?_
         refine W.rg [(2, .pointer (some ⟨b1, 0, none⟩)), (3, .pointer (some ⟨b2, 0, none⟩)), (4, .pointer (some ⟨b3, 0, none⟩)), (5, lv), (7, .int .i64 ((i : Nat) : Int))] fun TA => ?_
         refine W.region ?_
         refine RW.v ?_
         refine RW.valE (v' := .int .i64 (((i + 1) : Nat) : Int)) (by kernel_rfl) (by kernel_rfl) rfl (congrArg (Value.int .i64) ((wrap_in (by omega) (by omega)).trans (by omega))) (by kernel_rfl) ?_
         refine RW.v ?_
         refine RW.nil ?_
         refine blkQ_normal ?_
         exact ⟨rfl, mm - 1, by omega, i + 1, true, true, true, (by omega), (all_one hir hx hall (by rw [hc58]; decide)), (by rw [has_snoc hir hx, ← hw, hc59]; rfl), (by rw [has_snoc hir hx, ← he, hc60]; exact ((Bool.false_or _).trans (beq_iff_eq.2 hc58)).symm), (by rw [has_snoc hir hx, ← hh, hc72]; rfl), H, rfl, rfl, rfl, rfl, rfl⟩
        ·have hc72b := hc72
         iterate 2 refine RW.w ?_
         refine RW.idxF hlv.slf (by rfl) (by kernel_rfl) rfl Tryd.underlying48 (by kernel_rfl) rfl rfl ⟨by omega, by omega⟩ (by kernel_rfl) ?_
         intro b73 q74 r75 hF76 hE77
         rw [intz_x (l := R) (j := i) (i := ((i : Nat) : Int)) hx (by omega) (by omega)] at hE77
         refine RW.loads 1 (by rfl) (by kernel_rfl) rfl rfl (H.old _ _ hF76) hE77 rfl (by kernel_rfl) ?_
         refine RW.w ?_
         iterate 2 refine RW.v ?_
         refine RW.st H 0 [.bool (x == 94)] [.bool true, .bool true, .bool (x == 94), .slice none 0 0] ?_
         clear H; intro _ _ H; dsimp only [setL, delL] at H
         refine RW.nil ?_
         refine W.rg [(2, .pointer (some ⟨b1, 0, none⟩)), (3, .pointer (some ⟨b2, 0, none⟩)), (4, .pointer (some ⟨b3, 0, none⟩)), (5, lv), (7, .int .i64 ((i : Nat) : Int))] fun TA => ?_
         refine W.region ?_
         refine RW.v ?_
         refine RW.valE (v' := .int .i64 (((i + 1) : Nat) : Int)) (by kernel_rfl) (by kernel_rfl) rfl (congrArg (Value.int .i64) ((wrap_in (by omega) (by omega)).trans (by omega))) (by kernel_rfl) ?_
         refine RW.v ?_
         refine RW.nil ?_
         refine blkQ_normal ?_
         exact ⟨rfl, mm - 1, by omega, i + 1, true, true, x == 94, (by omega), (all_one hir hx hall (by rw [hc58]; decide)), (by rw [has_snoc hir hx, ← hw, hc59]; rfl), (by rw [has_snoc hir hx, ← he, hc60]; exact ((Bool.false_or _).trans (beq_iff_eq.2 hc58)).symm), (by rw [has_snoc hir hx, ← hh, hc72]; exact (Bool.false_or _).symm), H, rfl, rfl, rfl, rfl, rfl⟩
      ·have hc59b := hc59
       iterate 2 refine RW.w ?_
       refine RW.idxF hlv.slf (by rfl) (by kernel_rfl) rfl Tryd.underlying48 (by kernel_rfl) rfl rfl ⟨by omega, by omega⟩ (by kernel_rfl) ?_
       intro b78 q79 r80 hF81 hE82
       rw [intz_x (l := R) (j := i) (i := ((i : Nat) : Int)) hx (by omega) (by omega)] at hE82
       refine RW.loads 1 (by rfl) (by kernel_rfl) rfl rfl (H.old _ _ hF81) hE82 rfl (by kernel_rfl) ?_
       refine RW.valE (v' := .bool false) (by rfl) (by kernel_rfl) rfl (congrArg Value.bool (beq_eq_false_iff_ne.2 (by omega))) (by kernel_rfl) ?_
       iterate 2 refine RW.v ?_
       refine RW.st H 0 [.bool false] [.bool false, .bool e, .bool h, .slice none 0 0] ?_
       clear H; intro _ _ H; dsimp only [setL, delL] at H
       refine RW.nil ?_
       refine W.rg [(2, .pointer (some ⟨b1, 0, none⟩)), (3, .pointer (some ⟨b2, 0, none⟩)), (4, .pointer (some ⟨b3, 0, none⟩)), (5, lv), (7, .int .i64 ((i : Nat) : Int))] fun TA => ?_
       refine W.seq (W.region ?_)
       refine RW.v ?_
       refine RW.ld H 0 1 ?_
       refine RW.v ?_
       refine RW.both _ _ rfl rfl rfl (fun hc83 => ?_) (fun hc83 => ?_)
       ·have hc83b := hc83
        iterate 5 refine RW.s ?_
        iterate 2 refine RW.v ?_
        refine RW.st H 0 [.bool true] [.bool false, .bool true, .bool h, .slice none 0 0] ?_
        clear H; intro _ _ H; dsimp only [setL, delL] at H
        refine RW.nil ?_
        refine W.rg [(2, .pointer (some ⟨b1, 0, none⟩)), (3, .pointer (some ⟨b2, 0, none⟩)), (4, .pointer (some ⟨b3, 0, none⟩)), (5, lv), (7, .int .i64 ((i : Nat) : Int))] fun TA => ?_
        refine W.seq (W.region ?_)
        refine RW.v ?_
        refine RW.ld H 0 1 ?_
        refine RW.v ?_
        refine RW.both _ _ rfl rfl rfl (fun hc84 => ?_) (fun hc84 => ?_)
        ·have hc84b := hc84
         iterate 5 refine RW.s ?_
         iterate 2 refine RW.v ?_
         refine RW.st H 0 [.bool true] [.bool false, .bool true, .bool true, .slice none 0 0] ?_
         clear H; intro _ _ H; dsimp only [setL, delL] at H
         refine RW.nil ?_
         refine W.rg [(2, .pointer (some ⟨b1, 0, none⟩)), (3, .pointer (some ⟨b2, 0, none⟩)), (4, .pointer (some ⟨b3, 0, none⟩)), (5, lv), (7, .int .i64 ((i : Nat) : Int))] fun TA => ?_
         refine W.region ?_
         refine RW.v ?_
         refine RW.valE (v' := .int .i64 (((i + 1) : Nat) : Int)) (by kernel_rfl) (by kernel_rfl) rfl (congrArg (Value.int .i64) ((wrap_in (by omega) (by omega)).trans (by omega))) (by kernel_rfl) ?_
         refine RW.v ?_
         refine RW.nil ?_
         refine blkQ_normal ?_
         exact ⟨rfl, mm - 1, by omega, i + 1, false, true, true, (by omega), (all_one hir hx hall (by rw [hc58]; decide)), (by rw [has_snoc hir hx, ← hw, hc59]; exact ((Bool.false_or _).trans (beq_eq_false_iff_ne.2 hc10)).symm), (by rw [has_snoc hir hx, ← he, hc83]; rfl), (by rw [has_snoc hir hx, ← hh, hc84]; rfl), H, rfl, rfl, rfl, rfl, rfl⟩
        ·have hc84b := hc84
         iterate 2 refine RW.w ?_
         refine RW.idxF hlv.slf (by rfl) (by kernel_rfl) rfl Tryd.underlying48 (by kernel_rfl) rfl rfl ⟨by omega, by omega⟩ (by kernel_rfl) ?_
         intro b85 q86 r87 hF88 hE89
         rw [intz_x (l := R) (j := i) (i := ((i : Nat) : Int)) hx (by omega) (by omega)] at hE89
         refine RW.loads 1 (by rfl) (by kernel_rfl) rfl rfl (H.old _ _ hF88) hE89 rfl (by kernel_rfl) ?_
         refine RW.w ?_
         iterate 2 refine RW.v ?_
         refine RW.st H 0 [.bool (x == 94)] [.bool false, .bool true, .bool (x == 94), .slice none 0 0] ?_
         clear H; intro _ _ H; dsimp only [setL, delL] at H
         refine RW.nil ?_
         refine W.rg [(2, .pointer (some ⟨b1, 0, none⟩)), (3, .pointer (some ⟨b2, 0, none⟩)), (4, .pointer (some ⟨b3, 0, none⟩)), (5, lv), (7, .int .i64 ((i : Nat) : Int))] fun TA => ?_
         refine W.region ?_
         refine RW.v ?_
         refine RW.valE (v' := .int .i64 (((i + 1) : Nat) : Int)) (by kernel_rfl) (by kernel_rfl) rfl (congrArg (Value.int .i64) ((wrap_in (by omega) (by omega)).trans (by omega))) (by kernel_rfl) ?_
         refine RW.v ?_
         refine RW.nil ?_
         refine blkQ_normal ?_
         exact ⟨rfl, mm - 1, by omega, i + 1, false, true, x == 94, (by omega), (all_one hir hx hall (by rw [hc58]; decide)), (by rw [has_snoc hir hx, ← hw, hc59]; exact ((Bool.false_or _).trans (beq_eq_false_iff_ne.2 hc10)).symm), (by rw [has_snoc hir hx, ← he, hc83]; rfl), (by rw [has_snoc hir hx, ← hh, hc84]; exact (Bool.false_or _).symm), H, rfl, rfl, rfl, rfl, rfl⟩
       ·have hc83b := hc83
        iterate 2 refine RW.w ?_
        refine RW.idxF hlv.slf (by rfl) (by kernel_rfl) rfl Tryd.underlying48 (by kernel_rfl) rfl rfl ⟨by omega, by omega⟩ (by kernel_rfl) ?_
        intro b90 q91 r92 hF93 hE94
        rw [intz_x (l := R) (j := i) (i := ((i : Nat) : Int)) hx (by omega) (by omega)] at hE94
        refine RW.loads 1 (by rfl) (by kernel_rfl) rfl rfl (H.old _ _ hF93) hE94 rfl (by kernel_rfl) ?_
        refine RW.valE (v' := .bool true) (by rfl) (by kernel_rfl) rfl (congrArg Value.bool (beq_iff_eq.2 (by omega))) (by kernel_rfl) ?_
        iterate 2 refine RW.v ?_
        refine RW.st H 0 [.bool true] [.bool false, .bool true, .bool h, .slice none 0 0] ?_
        clear H; intro _ _ H; dsimp only [setL, delL] at H
        refine RW.nil ?_
        refine W.rg [(2, .pointer (some ⟨b1, 0, none⟩)), (3, .pointer (some ⟨b2, 0, none⟩)), (4, .pointer (some ⟨b3, 0, none⟩)), (5, lv), (7, .int .i64 ((i : Nat) : Int))] fun TA => ?_
        refine W.seq (W.region ?_)
        refine RW.v ?_
        refine RW.ld H 0 1 ?_
        refine RW.v ?_
        refine RW.both _ _ rfl rfl rfl (fun hc95 => ?_) (fun hc95 => ?_)
        ·have hc95b := hc95
         iterate 5 refine RW.s ?_
         iterate 2 refine RW.v ?_
         refine RW.st H 0 [.bool true] [.bool false, .bool true, .bool true, .slice none 0 0] ?_
         clear H; intro _ _ H; dsimp only [setL, delL] at H
         refine RW.nil ?_
         refine W.rg [(2, .pointer (some ⟨b1, 0, none⟩)), (3, .pointer (some ⟨b2, 0, none⟩)), (4, .pointer (some ⟨b3, 0, none⟩)), (5, lv), (7, .int .i64 ((i : Nat) : Int))] fun TA => ?_
         refine W.region ?_
         refine RW.v ?_
         refine RW.valE (v' := .int .i64 (((i + 1) : Nat) : Int)) (by kernel_rfl) (by kernel_rfl) rfl (congrArg (Value.int .i64) ((wrap_in (by omega) (by omega)).trans (by omega))) (by kernel_rfl) ?_
         refine RW.v ?_
         refine RW.nil ?_
         refine blkQ_normal ?_
         exact ⟨rfl, mm - 1, by omega, i + 1, false, true, true, (by omega), (all_one hir hx hall (by rw [hc58]; decide)), (by rw [has_snoc hir hx, ← hw, hc59]; exact ((Bool.false_or _).trans (beq_eq_false_iff_ne.2 hc10)).symm), (by rw [has_snoc hir hx, ← he, hc83]; exact ((Bool.false_or _).trans (beq_iff_eq.2 hc58)).symm), (by rw [has_snoc hir hx, ← hh, hc95]; rfl), H, rfl, rfl, rfl, rfl, rfl⟩
        ·have hc95b := hc95
         iterate 2 refine RW.w ?_
         refine RW.idxF hlv.slf (by rfl) (by kernel_rfl) rfl Tryd.underlying48 (by kernel_rfl) rfl rfl ⟨by omega, by omega⟩ (by kernel_rfl) ?_
         intro b96 q97 r98 hF99 hE100
         rw [intz_x (l := R) (j := i) (i := ((i : Nat) : Int)) hx (by omega) (by omega)] at hE100
         refine RW.loads 1 (by rfl) (by kernel_rfl) rfl rfl (H.old _ _ hF99) hE100 rfl (by kernel_rfl) ?_
         refine RW.w ?_
         iterate 2 refine RW.v ?_
         refine RW.st H 0 [.bool (x == 94)] [.bool false, .bool true, .bool (x == 94), .slice none 0 0] ?_
         clear H; intro _ _ H; dsimp only [setL, delL] at H
         refine RW.nil ?_
         refine W.rg [(2, .pointer (some ⟨b1, 0, none⟩)), (3, .pointer (some ⟨b2, 0, none⟩)), (4, .pointer (some ⟨b3, 0, none⟩)), (5, lv), (7, .int .i64 ((i : Nat) : Int))] fun TA => ?_
         refine W.region ?_
         refine RW.v ?_
         refine RW.valE (v' := .int .i64 (((i + 1) : Nat) : Int)) (by kernel_rfl) (by kernel_rfl) rfl (congrArg (Value.int .i64) ((wrap_in (by omega) (by omega)).trans (by omega))) (by kernel_rfl) ?_
         refine RW.v ?_
         refine RW.nil ?_
         refine blkQ_normal ?_
         exact ⟨rfl, mm - 1, by omega, i + 1, false, true, x == 94, (by omega), (all_one hir hx hall (by rw [hc58]; decide)), (by rw [has_snoc hir hx, ← hw, hc59]; exact ((Bool.false_or _).trans (beq_eq_false_iff_ne.2 hc10)).symm), (by rw [has_snoc hir hx, ← he, hc83]; exact ((Bool.false_or _).trans (beq_iff_eq.2 hc58)).symm), (by rw [has_snoc hir hx, ← hh, hc95]; exact (Bool.false_or _).symm), H, rfl, rfl, rfl, rfl, rfl⟩
     ·have hc58b := hc58
      have hc58 := ne_of_beq_false hc58
      iterate 2 refine RW.w ?_
      refine RW.idxF hlv.slf (by rfl) (by kernel_rfl) rfl Tryd.underlying48 (by kernel_rfl) rfl rfl ⟨by omega, by omega⟩ (by kernel_rfl) ?_
      intro b101 q102 r103 hF104 hE105
      rw [intz_x (l := R) (j := i) (i := ((i : Nat) : Int)) hx (by omega) (by omega)] at hE105
      refine RW.loads 1 (by rfl) (by kernel_rfl) rfl rfl (H.old _ _ hF104) hE105 rfl (by kernel_rfl) ?_
      iterate 2 refine RW.w ?_
      refine RW.v ?_
      refine RW.nil ?_
      refine W.rg [(2, .pointer (some ⟨b1, 0, none⟩)), (3, .pointer (some ⟨b2, 0, none⟩)), (4, .pointer (some ⟨b3, 0, none⟩)), (5, lv), (7, .int .i64 ((i : Nat) : Int)), (42, .bool (x == 94))] fun TA => ?_
      refine W.cond rfl (fun hc106 => ?_) (fun hc106 => ?_)
      ·have hc106b := hc106
       have hc106 := eq_of_beq hc106
       refine W.skip ?_
       refine W.block ?_
       refine W.seq (W.region ?_)
       refine RW.v ?_
       refine RW.ld H 0 1 ?_
       refine RW.v ?_
       refine RW.both _ _ rfl rfl rfl (fun hc107 => ?_) (fun hc107 => ?_)
       ·have hc107b := hc107
        iterate 5 refine RW.s ?_
        iterate 2 refine RW.v ?_
        refine RW.st H 0 [.bool true] [.bool true, .bool e, .bool h, .slice none 0 0] ?_
        clear H; intro _ _ H; dsimp only [setL, delL] at H
        refine RW.nil ?_
        refine W.rg [(2, .pointer (some ⟨b1, 0, none⟩)), (3, .pointer (some ⟨b2, 0, none⟩)), (4, .pointer (some ⟨b3, 0, none⟩)), (5, lv), (7, .int .i64 ((i : Nat) : Int))] fun TA => ?_
        refine W.seq (W.region ?_)
        refine RW.v ?_
        refine RW.ld H 0 1 ?_
        refine RW.v ?_
        refine RW.both _ _ rfl rfl rfl (fun hc108 => ?_) (fun hc108 => ?_)
        ·have hc108b := hc108
         iterate 5 refine RW.s ?_
         iterate 2 refine RW.v ?_
         refine RW.st H 0 [.bool true] [.bool true, .bool true, .bool h, .slice none 0 0] ?_
         clear H; intro _ _ H; dsimp only [setL, delL] at H
         refine RW.nil ?_
         refine W.rg [(2, .pointer (some ⟨b1, 0, none⟩)), (3, .pointer (some ⟨b2, 0, none⟩)), (4, .pointer (some ⟨b3, 0, none⟩)), (5, lv), (7, .int .i64 ((i : Nat) : Int))] fun TA => ?_
         refine W.seq (W.region ?_)
         refine RW.v ?_
         refine RW.ld H 0 1 ?_
         refine RW.v ?_
         refine RW.both _ _ rfl rfl rfl (fun hc109 => ?_) (fun hc109 => ?_)
         ·have hc109b := hc109
          iterate 5 refine RW.s ?_
          iterate 2 refine RW.v ?_
          refine RW.st H 0 [.bool true] [.bool true, .bool true, .bool true, .slice none 0 0] ?_
          clear H; intro _ _ H; dsimp only [setL, delL] at H
          refine RW.nil ?_
          refine W.rg [(2, .pointer (some ⟨b1, 0, none⟩)), (3, .pointer (some ⟨b2, 0, none⟩)), (4, .pointer (some ⟨b3, 0, none⟩)), (5, lv), (7, .int .i64 ((i : Nat) : Int))] fun TA => ?_
          refine W.region ?_
          refine RW.v ?_
          refine RW.valE (v' := .int .i64 (((i + 1) : Nat) : Int)) (by kernel_rfl) (by kernel_rfl) rfl (congrArg (Value.int .i64) ((wrap_in (by omega) (by omega)).trans (by omega))) (by kernel_rfl) ?_
          refine RW.v ?_
          refine RW.nil ?_
          refine blkQ_normal ?_
          exact ⟨rfl, mm - 1, by omega, i + 1, true, true, true, (by omega), (all_one hir hx hall (by rw [hc106]; decide)), (by rw [has_snoc hir hx, ← hw, hc107]; rfl), (by rw [has_snoc hir hx, ← he, hc108]; rfl), (by rw [has_snoc hir hx, ← hh, hc109]; rfl), H, rfl, rfl, rfl, rfl, rfl⟩
         ·have hc109b := hc109
          iterate 2 refine RW.w ?_
          refine RW.idxF hlv.slf (by rfl) (by kernel_rfl) rfl Tryd.underlying48 (by kernel_rfl) rfl rfl ⟨by omega, by omega⟩ (by kernel_rfl) ?_
          intro b110 q111 r112 hF113 hE114
          rw [intz_x (l := R) (j := i) (i := ((i : Nat) : Int)) hx (by omega) (by omega)] at hE114
          refine RW.loads 1 (by rfl) (by kernel_rfl) rfl rfl (H.old _ _ hF113) hE114 rfl (by kernel_rfl) ?_
          refine RW.valE (v' := .bool true) (by rfl) (by kernel_rfl) rfl (congrArg Value.bool (beq_iff_eq.2 (by omega))) (by kernel_rfl) ?_
          iterate 2 refine RW.v ?_
          refine RW.st H 0 [.bool true] [.bool true, .bool true, .bool true, .slice none 0 0] ?_
          clear H; intro _ _ H; dsimp only [setL, delL] at H
          refine RW.nil ?_
          refine W.rg [(2, .pointer (some ⟨b1, 0, none⟩)), (3, .pointer (some ⟨b2, 0, none⟩)), (4, .pointer (some ⟨b3, 0, none⟩)), (5, lv), (7, .int .i64 ((i : Nat) : Int))] fun TA => ?_
          refine W.region ?_
          refine RW.v ?_
          refine RW.valE (v' := .int .i64 (((i + 1) : Nat) : Int)) (by kernel_rfl) (by kernel_rfl) rfl (congrArg (Value.int .i64) ((wrap_in (by omega) (by omega)).trans (by omega))) (by kernel_rfl) ?_
          refine RW.v ?_
          refine RW.nil ?_
          refine blkQ_normal ?_
          exact ⟨rfl, mm - 1, by omega, i + 1, true, true, true, (by omega), (all_one hir hx hall (by rw [hc106]; decide)), (by rw [has_snoc hir hx, ← hw, hc107]; rfl), (by rw [has_snoc hir hx, ← he, hc108]; rfl), (by rw [has_snoc hir hx, ← hh, hc109]; exact ((Bool.false_or _).trans (beq_iff_eq.2 hc106)).symm), H, rfl, rfl, rfl, rfl, rfl⟩
        ·have hc108b := hc108
         iterate 2 refine RW.w ?_
         refine RW.idxF hlv.slf (by rfl) (by kernel_rfl) rfl Tryd.underlying48 (by kernel_rfl) rfl rfl ⟨by omega, by omega⟩ (by kernel_rfl) ?_
         intro b115 q116 r117 hF118 hE119
         rw [intz_x (l := R) (j := i) (i := ((i : Nat) : Int)) hx (by omega) (by omega)] at hE119
         refine RW.loads 1 (by rfl) (by kernel_rfl) rfl rfl (H.old _ _ hF118) hE119 rfl (by kernel_rfl) ?_
         refine RW.valE (v' := .bool false) (by rfl) (by kernel_rfl) rfl (congrArg Value.bool (beq_eq_false_iff_ne.2 (by omega))) (by kernel_rfl) ?_
         iterate 2 refine RW.v ?_
         refine RW.st H 0 [.bool false] [.bool true, .bool false, .bool h, .slice none 0 0] ?_
         clear H; intro _ _ H; dsimp only [setL, delL] at H
         refine RW.nil ?_
         refine W.rg [(2, .pointer (some ⟨b1, 0, none⟩)), (3, .pointer (some ⟨b2, 0, none⟩)), (4, .pointer (some ⟨b3, 0, none⟩)), (5, lv), (7, .int .i64 ((i : Nat) : Int))] fun TA => ?_
         refine W.seq (W.region ?_)
         refine RW.v ?_
         refine RW.ld H 0 1 ?_
         refine RW.v ?_
         refine RW.both _ _ rfl rfl rfl (fun hc120 => ?_) (fun hc120 => ?_)
         ·have hc120b := hc120
          iterate 5 refine RW.s ?_
          iterate 2 refine RW.v ?_
          refine RW.st H 0 [.bool true] [.bool true, .bool false, .bool true, .slice none 0 0] ?_
          clear H; intro _ _ H; dsimp only [setL, delL] at H
          refine RW.nil ?_
          refine W.rg [(2, .pointer (some ⟨b1, 0, none⟩)), (3, .pointer (some ⟨b2, 0, none⟩)), (4, .pointer (some ⟨b3, 0, none⟩)), (5, lv), (7, .int .i64 ((i : Nat) : Int))] fun TA => ?_
          refine W.region ?_
          refine RW.v ?_
          refine RW.valE (v' := .int .i64 (((i + 1) : Nat) : Int)) (by kernel_rfl) (by kernel_rfl) rfl (congrArg (Value.int .i64) ((wrap_in (by omega) (by omega)).trans (by omega))) (by kernel_rfl) ?_
          refine RW.v ?_
          refine RW.nil ?_
          refine blkQ_normal ?_
          exact ⟨rfl, mm - 1, by omega, i + 1, true, false, true, (by omega), (all_one hir hx hall (by rw [hc106]; decide)), (by rw [has_snoc hir hx, ← hw, hc107]; rfl), (by rw [has_snoc hir hx, ← he, hc108]; exact ((Bool.false_or _).trans (beq_eq_false_iff_ne.2 hc58)).symm), (by rw [has_snoc hir hx, ← hh, hc120]; rfl), H, rfl, rfl, rfl, rfl, rfl⟩
         ·have hc120b := hc120
          iterate 2 refine RW.w ?_
          refine RW.idxF hlv.slf (by rfl) (by kernel_rfl) rfl Tryd.underlying48 (by kernel_rfl) rfl rfl ⟨by omega, by omega⟩ (by kernel_rfl) ?_
          intro b121 q122 r123 hF124 hE125
          rw [intz_x (l := R) (j := i) (i := ((i : Nat) : Int)) hx (by omega) (by omega)] at hE125
          refine RW.loads 1 (by rfl) (by kernel_rfl) rfl rfl (H.old _ _ hF124) hE125 rfl (by kernel_rfl) ?_
          refine RW.valE (v' := .bool true) (by rfl) (by kernel_rfl) rfl (congrArg Value.bool (beq_iff_eq.2 (by omega))) (by kernel_rfl) ?_
          iterate 2 refine RW.v ?_
          refine RW.st H 0 [.bool true] [.bool true, .bool false, .bool true, .slice none 0 0] ?_
          clear H; intro _ _ H; dsimp only [setL, delL] at H
          refine RW.nil ?_
          refine W.rg [(2, .pointer (some ⟨b1, 0, none⟩)), (3, .pointer (some ⟨b2, 0, none⟩)), (4, .pointer (some ⟨b3, 0, none⟩)), (5, lv), (7, .int .i64 ((i : Nat) : Int))] fun TA => ?_
          refine W.region ?_
          refine RW.v ?_
          refine RW.valE (v' := .int .i64 (((i + 1) : Nat) : Int)) (by kernel_rfl) (by kernel_rfl) rfl (congrArg (Value.int .i64) ((wrap_in (by omega) (by omega)).trans (by omega))) (by kernel_rfl) ?_
          refine RW.v ?_
          refine RW.nil ?_
          refine blkQ_normal ?_
          exact ⟨rfl, mm - 1, by omega, i + 1, true, false, true, (by omega), (all_one hir hx hall (by rw [hc106]; decide)), (by rw [has_snoc hir hx, ← hw, hc107]; rfl), (by rw [has_snoc hir hx, ← he, hc108]; exact ((Bool.false_or _).trans (beq_eq_false_iff_ne.2 hc58)).symm), (by rw [has_snoc hir hx, ← hh, hc120]; exact ((Bool.false_or _).trans (beq_iff_eq.2 hc106)).symm), H, rfl, rfl, rfl, rfl, rfl⟩
       ·have hc107b := hc107
        iterate 2 refine RW.w ?_
        refine RW.idxF hlv.slf (by rfl) (by kernel_rfl) rfl Tryd.underlying48 (by kernel_rfl) rfl rfl ⟨by omega, by omega⟩ (by kernel_rfl) ?_
        intro b126 q127 r128 hF129 hE130
        rw [intz_x (l := R) (j := i) (i := ((i : Nat) : Int)) hx (by omega) (by omega)] at hE130
        refine RW.loads 1 (by rfl) (by kernel_rfl) rfl rfl (H.old _ _ hF129) hE130 rfl (by kernel_rfl) ?_
        refine RW.valE (v' := .bool false) (by rfl) (by kernel_rfl) rfl (congrArg Value.bool (beq_eq_false_iff_ne.2 (by omega))) (by kernel_rfl) ?_
        iterate 2 refine RW.v ?_
        refine RW.st H 0 [.bool false] [.bool false, .bool e, .bool h, .slice none 0 0] ?_
        clear H; intro _ _ H; dsimp only [setL, delL] at H
        refine RW.nil ?_
        refine W.rg [(2, .pointer (some ⟨b1, 0, none⟩)), (3, .pointer (some ⟨b2, 0, none⟩)), (4, .pointer (some ⟨b3, 0, none⟩)), (5, lv), (7, .int .i64 ((i : Nat) : Int))] fun TA => ?_
        refine W.seq (W.region ?_)
        refine RW.v ?_
        refine RW.ld H 0 1 ?_
        refine RW.v ?_
        refine RW.both _ _ rfl rfl rfl (fun hc131 => ?_) (fun hc131 => ?_)
        ·have hc131b := hc131
         iterate 5 refine RW.s ?_
         iterate 2 refine RW.v ?_
         refine RW.st H 0 [.bool true] [.bool false, .bool true, .bool h, .slice none 0 0] ?_
         clear H; intro _ _ H; dsimp only [setL, delL] at H
         refine RW.nil ?_
         refine W.rg [(2, .pointer (some ⟨b1, 0, none⟩)), (3, .pointer (some ⟨b2, 0, none⟩)), (4, .pointer (some ⟨b3, 0, none⟩)), (5, lv), (7, .int .i64 ((i : Nat) : Int))] fun TA => ?_
         refine W.seq (W.region ?_)
         refine RW.v ?_
         refine RW.ld H 0 1 ?_
         refine RW.v ?_
         refine RW.both _ _ rfl rfl rfl (fun hc132 => ?_) (fun hc132 => ?_)
         ·have hc132b := hc132
          iterate 5 refine RW.s ?_
          iterate 2 refine RW.v ?_
          refine RW.st H 0 [.bool true] [.bool false, .bool true, .bool true, .slice none 0 0] ?_
          clear H; intro _ _ H; dsimp only [setL, delL] at H
          refine RW.nil ?_
          refine W.rg [(2, .pointer (some ⟨b1, 0, none⟩)), (3, .pointer (some ⟨b2, 0, none⟩)), (4, .pointer (some ⟨b3, 0, none⟩)), (5, lv), (7, .int .i64 ((i : Nat) : Int))] fun TA => ?_
          refine W.region ?_
          refine RW.v ?_
          refine RW.valE (v' := .int .i64 (((i + 1) : Nat) : Int)) (by kernel_rfl) (by kernel_rfl) rfl (congrArg (Value.int .i64) ((wrap_in (by omega) (by omega)).trans (by omega))) (by kernel_rfl) ?_
          refine RW.v ?_
          refine RW.nil ?_
          refine blkQ_normal ?_
          exact ⟨rfl, mm - 1, by omega, i + 1, false, true, true, (by omega), (all_one hir hx hall (by rw [hc106]; decide)), (by rw [has_snoc hir hx, ← hw, hc107]; exact ((Bool.false_or _).trans (beq_eq_false_iff_ne.2 hc10)).symm), (by rw [has_snoc hir hx, ← he, hc131]; rfl), (by rw [has_snoc hir hx, ← hh, hc132]; rfl), H, rfl, rfl, rfl, rfl, rfl⟩
         ·have hc132b := hc132
          iterate 2 refine RW.w ?_
          refine RW.idxF hlv.slf (by rfl) (by kernel_rfl) rfl Tryd.underlying48 (by kernel_rfl) rfl rfl ⟨by omega, by omega⟩ (by kernel_rfl) ?_
          intro b133 q134 r135 hF136 hE137
          rw [intz_x (l := R) (j := i) (i := ((i : Nat) : Int)) hx (by omega) (by omega)] at hE137
          refine RW.loads 1 (by rfl) (by kernel_rfl) rfl rfl (H.old _ _ hF136) hE137 rfl (by kernel_rfl) ?_
          refine RW.valE (v' := .bool true) (by rfl) (by kernel_rfl) rfl (congrArg Value.bool (beq_iff_eq.2 (by omega))) (by kernel_rfl) ?_
          iterate 2 refine RW.v ?_
          refine RW.st H 0 [.bool true] [.bool false, .bool true, .bool true, .slice none 0 0] ?_
          clear H; intro _ _ H; dsimp only [setL, delL] at H
          refine RW.nil ?_
          refine W.rg [(2, .pointer (some ⟨b1, 0, none⟩)), (3, .pointer (some ⟨b2, 0, none⟩)), (4, .pointer (some ⟨b3, 0, none⟩)), (5, lv), (7, .int .i64 ((i : Nat) : Int))] fun TA => ?_
          refine W.region ?_
          refine RW.v ?_
          refine RW.valE (v' := .int .i64 (((i + 1) : Nat) : Int)) (by kernel_rfl) (by kernel_rfl) rfl (congrArg (Value.int .i64) ((wrap_in (by omega) (by omega)).trans (by omega))) (by kernel_rfl) ?_
          refine RW.v ?_
          refine RW.nil ?_
          refine blkQ_normal ?_
          exact ⟨rfl, mm - 1, by omega, i + 1, false, true, true, (by omega), (all_one hir hx hall (by rw [hc106]; decide)), (by rw [has_snoc hir hx, ← hw, hc107]; exact ((Bool.false_or _).trans (beq_eq_false_iff_ne.2 hc10)).symm), (by rw [has_snoc hir hx, ← he, hc131]; rfl), (by rw [has_snoc hir hx, ← hh, hc132]; exact ((Bool.false_or _).trans (beq_iff_eq.2 hc106)).symm), H, rfl, rfl, rfl, rfl, rfl⟩
        ·have hc131b := hc131
         iterate 2 refine RW.w ?_
         refine RW.idxF hlv.slf (by rfl) (by kernel_rfl) rfl Tryd.underlying48 (by kernel_rfl) rfl rfl ⟨by omega, by omega⟩ (by kernel_rfl) ?_
         intro b138 q139 r140 hF141 hE142
         rw [intz_x (l := R) (j := i) (i := ((i : Nat) : Int)) hx (by omega) (by omega)] at hE142
         refine RW.loads 1 (by rfl) (by kernel_rfl) rfl rfl (H.old _ _ hF141) hE142 rfl (by kernel_rfl) ?_
         refine RW.valE (v' := .bool false) (by rfl) (by kernel_rfl) rfl (congrArg Value.bool (beq_eq_false_iff_ne.2 (by omega))) (by kernel_rfl) ?_
         iterate 2 refine RW.v ?_
         refine RW.st H 0 [.bool false] [.bool false, .bool false, .bool h, .slice none 0 0] ?_
         clear H; intro _ _ H; dsimp only [setL, delL] at H
         refine RW.nil ?_
         refine W.rg [(2, .pointer (some ⟨b1, 0, none⟩)), (3, .pointer (some ⟨b2, 0, none⟩)), (4, .pointer (some ⟨b3, 0, none⟩)), (5, lv), (7, .int .i64 ((i : Nat) : Int))] fun TA => ?_
         refine W.seq (W.region ?_)
         refine RW.v ?_
         refine RW.ld H 0 1 ?_
         refine RW.v ?_
         refine RW.both _ _ rfl rfl rfl (fun hc143 => ?_) (fun hc143 => ?_)
         ·have hc143b := hc143
          iterate 5 refine RW.s ?_
          iterate 2 refine RW.v ?_
          refine RW.st H 0 [.bool true] [.bool false, .bool false, .bool true, .slice none 0 0] ?_
          clear H; intro _ _ H; dsimp only [setL, delL] at H
          refine RW.nil ?_
          refine W.rg [(2, .pointer (some ⟨b1, 0, none⟩)), (3, .pointer (some ⟨b2, 0, none⟩)), (4, .pointer (some ⟨b3, 0, none⟩)), (5, lv), (7, .int .i64 ((i : Nat) : Int))] fun TA => ?_
          refine W.region ?_
          refine RW.v ?_
          refine RW.valE (v' := .int .i64 (((i + 1) : Nat) : Int)) (by kernel_rfl) (by kernel_rfl) rfl (congrArg (Value.int .i64) ((wrap_in (by omega) (by omega)).trans (by omega))) (by kernel_rfl) ?_
          refine RW.v ?_
          refine RW.nil ?_
          refine blkQ_normal ?_
          exact ⟨rfl, mm - 1, by omega, i + 1, false, false, true, (by omega), (all_one hir hx hall (by rw [hc106]; decide)), (by rw [has_snoc hir hx, ← hw, hc107]; exact ((Bool.false_or _).trans (beq_eq_false_iff_ne.2 hc10)).symm), (by rw [has_snoc hir hx, ← he, hc131]; exact ((Bool.false_or _).trans (beq_eq_false_iff_ne.2 hc58)).symm), (by rw [has_snoc hir hx, ← hh, hc143]; rfl), H, rfl, rfl, rfl, rfl, rfl⟩
         ·have hc143b := hc143
          iterate 2 refine RW.w ?_
          refine RW.idxF hlv.slf (by rfl) (by kernel_rfl) rfl Tryd.underlying48 (by kernel_rfl) rfl rfl ⟨by omega, by omega⟩ (by kernel_rfl) ?_
          intro b144 q145 r146 hF147 hE148
          rw [intz_x (l := R) (j := i) (i := ((i : Nat) : Int)) hx (by omega) (by omega)] at hE148
          refine RW.loads 1 (by rfl) (by kernel_rfl) rfl rfl (H.old _ _ hF147) hE148 rfl (by kernel_rfl) ?_
          refine RW.valE (v' := .bool true) (by rfl) (by kernel_rfl) rfl (congrArg Value.bool (beq_iff_eq.2 (by omega))) (by kernel_rfl) ?_
          iterate 2 refine RW.v ?_
          refine RW.st H 0 [.bool true] [.bool false, .bool false, .bool true, .slice none 0 0] ?_
          clear H; intro _ _ H; dsimp only [setL, delL] at H
          refine RW.nil ?_
          refine W.rg [(2, .pointer (some ⟨b1, 0, none⟩)), (3, .pointer (some ⟨b2, 0, none⟩)), (4, .pointer (some ⟨b3, 0, none⟩)), (5, lv), (7, .int .i64 ((i : Nat) : Int))] fun TA => ?_
          refine W.region ?_
          refine RW.v ?_
          refine RW.valE (v' := .int .i64 (((i + 1) : Nat) : Int)) (by kernel_rfl) (by kernel_rfl) rfl (congrArg (Value.int .i64) ((wrap_in (by omega) (by omega)).trans (by omega))) (by kernel_rfl) ?_
          refine RW.v ?_
          refine RW.nil ?_
          refine blkQ_normal ?_
          exact ⟨rfl, mm - 1, by omega, i + 1, false, false, true, (by omega), (all_one hir hx hall (by rw [hc106]; decide)), (by rw [has_snoc hir hx, ← hw, hc107]; exact ((Bool.false_or _).trans (beq_eq_false_iff_ne.2 hc10)).symm), (by rw [has_snoc hir hx, ← he, hc131]; exact ((Bool.false_or _).trans (beq_eq_false_iff_ne.2 hc58)).symm), (by rw [has_snoc hir hx, ← hh, hc143]; exact ((Bool.false_or _).trans (beq_iff_eq.2 hc106)).symm), H, rfl, rfl, rfl, rfl, rfl⟩
      ·have hc106b := hc106
       have hc106 := ne_of_beq_false hc106
       refine W.exit _ ?_
       refine seqQ_exit ?_
       refine rndQ_exit ?_
       have hFl : flagsR s = R.take i := tw_end hR hall (.inr ⟨hir, by rw [← hx]; simp [flagB, hc10, hc58, hc106]⟩)
       have hiR : i ≤ R.length := by omega
       clear hm
       refine blkQ_here ?_
       exact ⟨rfl, rfl, i, w, e, h, hFl, hiR, hw, he, hh, H, rfl, rfl, rfl, rfl, rfl⟩
   ·have hc4b := hc4
    have hc4 := of_decide_eq_false hc4
    iterate 19 refine RW.s ?_
    refine RW.v ?_
    refine RW.nil ?_
    refine W.c0 ?_
    refine W.exit _ ?_
    refine seqQ_exit ?_
    refine rndQ_exit ?_
    have hFl : flagsR s = R.take i := tw_end hR hall (.inl (by omega))
    have hiR : i ≤ R.length := by omega
    clear hm
    refine blkQ_here ?_
    exact ⟨rfl, rfl, i, w, e, h, hFl, hiR, hw, he, hh, H, rfl, rfl, rfl, rfl, rfl⟩
  clear H
  rintro ta _ ⟨i, w, e, h, hFl, hiR, hw, he, hh, H, e2, e3, e4, e5, e7⟩
  refine W.rst [(2, .pointer (some ⟨b1, 0, none⟩)), (3, .pointer (some ⟨b2, 0, none⟩)), (4, .pointer (some ⟨b3, 0, none⟩)), (5, lv), (7, .int .i64 ((i : Nat) : Int))] ⟨e2, e3, e4, e5, e7, trivial⟩ fun TA => ?_
  clear e2 e3 e4 e5 e7
  refine W.seq ?_
  refine W.block ?_
  rw [← hFl] at hw he hh
  have hRs : restR s = R.drop i := by unfold restR; rw [hFl, ← hR, List.length_take, Nat.min_eq_left hiR]
  obtain ⟨T, hTd⟩ : ∃ T, T = needsG (restR s).length ((flagsR s).length : Int) (restR s) := ⟨_, rfl⟩
  have hT0 : T = ([] ++ (needsG (R.drop i).length ((i : Nat) : Int) (R.drop i)).1, (needsG (R.drop i).length ((i : Nat) : Int) (R.drop i)).2) := by rw [hTd, hRs, hFl, List.length_take, Nat.min_eq_left hiR]; rfl
  clear hFl hRs
  replace H := H.nilSl 29 2
  refine W.loop (fun mm ta σ => ∃ (i : Nat) (acc : List Need) (u : Value), (i ≤ R.length + 1) ∧ (acc.length ≤ i) ∧ (R.length + 1 - i ≤ mm) ∧ (T = (acc ++ (needsG (R.drop i).length ((i : Nat) : Int) (R.drop i)).1, (needsG (R.drop i).length ((i : Nat) : Int) (R.drop i)).2)) ∧ Lies G A F σ (.sl 29 2 u acc.length (needC acc) :: .at_ b3 (.row ⟨[.bool w, .bool e, .bool h, u], 24, false⟩) :: .at_ b2 (.row ⟨[.int .i64 0, .int .i64 0], 33, false⟩) :: .at_ b1 (.row ⟨[.bool false, .bool false, .bool false, .slice none 0 0], 24, false⟩) :: (L)) ∧ ta 2 = .pointer (some ⟨b1, 0, none⟩) ∧ ta 3 = .pointer (some ⟨b2, 0, none⟩) ∧ ta 4 = .pointer (some ⟨b3, 0, none⟩) ∧ ta 5 = lv ∧ ta 7 = .int .i64 ((i : Nat) : Int)) (R.length + 1) ?_ ?_
  ·exact ⟨i, [], .slice none 0 0, (by omega), (Nat.zero_le _), (by omega), hT0, H, rfl, rfl, rfl, rfl, rfl⟩
  clear H
  rintro mm ta _ ⟨i, acc, u, hi1, hacc, hm, hT, H, e2, e3, e4, e5, e7⟩
  refine W.rst [(2, .pointer (some ⟨b1, 0, none⟩)), (3, .pointer (some ⟨b2, 0, none⟩)), (4, .pointer (some ⟨b3, 0, none⟩)), (5, lv), (7, .int .i64 ((i : Nat) : Int))] ⟨e2, e3, e4, e5, e7, trivial⟩ fun TA => ?_
  clear e2 e3 e4 e5 e7
  obtain ⟨x, hx⟩ : ∃ x, x = R.getD i 0 := ⟨_, rfl⟩
  refine W.seq ?_
  refine W.seq (W.region ?_)
  iterate 2 refine RW.v ?_
  refine RW.len (by kernel_rfl) (by kernel_rfl) rfl rfl rfl rfl (hlv.slf.len (e := 3) (by kernel_rfl)) (by kernel_rfl) ?_
  refine RW.v ?_
  refine RW.nil ?_
  refine W.rg [(2, .pointer (some ⟨b1, 0, none⟩)), (3, .pointer (some ⟨b2, 0, none⟩)), (4, .pointer (some ⟨b3, 0, none⟩)), (5, lv), (7, .int .i64 ((i : Nat) : Int)), (78, .bool (decide (((i : Nat) : Int) < (R.length : Int))))] fun TA => ?_
  refine W.cond rfl (fun hc149 => ?_) (fun hc149 => ?_)
  ·have hc149b := hc149
   have hc149 := of_decide_eq_true hc149
   have hir : i < R.length := by omega
   refine W.skip ?_
   refine W.block ?_
   refine W.seq ?_
   refine W.seq (W.region ?_)
   iterate 2 refine RW.v ?_
   refine RW.idxF hlv.slf (by kernel_rfl) (by kernel_rfl) rfl Tryd.underlying48 (by kernel_rfl) rfl rfl ⟨by omega, by omega⟩ (by kernel_rfl) ?_
   intro b150 q151 r152 hF153 hE154
   rw [intz_x (l := R) (j := i) (i := ((i : Nat) : Int)) hx (by omega) (by omega)] at hE154
   refine RW.loads 1 (by kernel_rfl) (by kernel_rfl) rfl rfl (H.old _ _ hF153) hE154 rfl (by kernel_rfl) ?_
   refine RW.cl ?_
   refine ((rcode_wc (c := x) H).mono ?_)
   clear H
   rintro _ _ ⟨rfl, H⟩
   refine RW.v ?_
   refine RW.nil ?_
   refine W.rg [(2, .pointer (some ⟨b1, 0, none⟩)), (3, .pointer (some ⟨b2, 0, none⟩)), (4, .pointer (some ⟨b3, 0, none⟩)), (5, lv), (7, .int .i64 ((i : Nat) : Int)), (84, .bool (!(decide (x ∈ codeL))))] fun TA => ?_
   refine W.cond rfl (fun hc155 => ?_) (fun hc155 => ?_)
   ·have hc155b := hc155
    have hcd : x ∉ codeL := by simpa using hc155b
    refine W.seq (W.region ?_)
    refine RW.val (v := .agg #[.bool false, .bool false, .bool false, .slice none 0 0]) (by kernel_rfl) (by kernel_rfl) (by kernel_rfl) (by kernel_rfl) ?_
    refine RW.v ?_
    refine RW.val (v := .agg #[.int .i64 5, .int .i64 ((i : Nat) : Int)]) (by kernel_rfl) (by kernel_rfl) (by kernel_rfl) (by kernel_rfl) ?_
    refine RW.st H 3 [.bool false, .bool false, .bool false, .slice none 0 0] [.bool false, .bool false, .bool false, .slice none 0 0] ?_
    clear H; intro _ _ H; dsimp only [setL, delL] at H
    refine RW.st H 2 [.int .i64 5, .int .i64 ((i : Nat) : Int)] [.int .i64 5, .int .i64 ((i : Nat) : Int)] ?_
    clear H; intro _ _ H; dsimp only [setL, delL] at H
    refine RW.nil ?_
    replace H := ((H.del 1).del 0)
    dsimp only [setL, delL] at H
    refine W.ret ?_
    refine seqQ_ret ?_
    refine blkQ_ret ?_
    refine rndQ_ret ?_
    refine blkQ_ret ?_
    refine seqQ_ret ?_
    refine endG (by rfl) (by exact resL_cell rfl (H.get 1 rfl) (by rw [uT_eq]; exact Tryd.underlying24) (by kernel_rfl) rfl rfl (by exact resL_cell rfl (H.get 0 rfl) (by rw [uT_eq]; exact Tryd.underlying33) (by kernel_rfl) rfl rfl rfl)) ?_
    have hpf := parse_fault hv ((congrArg Prod.snd hTd).symm.trans (needs_fault (p := R.drop (i + 1)) (by rw [show x :: R.drop (i + 1) = R.drop i from (drop_x hir hx).symm]; exact hT) hcd))
    rw [hpf]
    exact ⟨F, _, le0, rfl, .nil _ rfl, ((H.del 1).del 0)⟩
   ·have hc155b := hc155
    have hcd : x ∈ codeL := by simpa using hc155b
    refine W.skip ?_
    refine W.seq (W.region ?_)
    refine RW.v ?_
    refine RW.valE (v' := .int .i64 (((i + 1) : Nat) : Int)) (by kernel_rfl) (by kernel_rfl) rfl (congrArg (Value.int .i64) ((wrap_in (by omega) (by omega)).trans (by omega))) (by kernel_rfl) ?_
    refine RW.v ?_
    refine RW.nil ?_
    refine W.rg [(2, .pointer (some ⟨b1, 0, none⟩)), (3, .pointer (some ⟨b2, 0, none⟩)), (4, .pointer (some ⟨b3, 0, none⟩)), (5, lv), (7, .int .i64 ((i : Nat) : Int)), (8, .int .i64 (((i + 1) : Nat) : Int))] fun TA => ?_
    refine W.seq ?_
    refine W.block ?_
    refine W.loop (fun m2 ta σ => ∃ (k : Nat), (m2 + k = R.length) ∧ (i + 1 ≤ k) ∧ (k ≤ R.length) ∧ ((10 : Int) ∉ (R.drop (i + 1)).take (k - (i + 1))) ∧ Lies G A F σ (.sl 29 2 u acc.length (needC acc) :: .at_ b3 (.row ⟨[.bool w, .bool e, .bool h, u], 24, false⟩) :: .at_ b2 (.row ⟨[.int .i64 0, .int .i64 0], 33, false⟩) :: .at_ b1 (.row ⟨[.bool false, .bool false, .bool false, .slice none 0 0], 24, false⟩) :: (L)) ∧ ta 2 = .pointer (some ⟨b1, 0, none⟩) ∧ ta 3 = .pointer (some ⟨b2, 0, none⟩) ∧ ta 4 = .pointer (some ⟨b3, 0, none⟩) ∧ ta 5 = lv ∧ ta 7 = .int .i64 ((i : Nat) : Int) ∧ ta 8 = .int .i64 ((k : Nat) : Int)) (R.length - (i + 1)) ?_ ?_
    ·exact ⟨i + 1, (by omega), (Nat.le_refl _), (by omega), (by rw [Nat.sub_self, List.take_zero]; exact List.not_mem_nil), H, rfl, rfl, rfl, rfl, rfl, rfl⟩
    clear H
    rintro m2 ta _ ⟨k, hm2, hik, hkl, hno, H, e2, e3, e4, e5, e7, e8⟩
    refine W.rst [(2, .pointer (some ⟨b1, 0, none⟩)), (3, .pointer (some ⟨b2, 0, none⟩)), (4, .pointer (some ⟨b3, 0, none⟩)), (5, lv), (7, .int .i64 ((i : Nat) : Int)), (8, .int .i64 ((k : Nat) : Int))] ⟨e2, e3, e4, e5, e7, e8, trivial⟩ fun TA => ?_
    clear e2 e3 e4 e5 e7 e8
    obtain ⟨y, hy⟩ : ∃ y, y = R.getD k 0 := ⟨_, rfl⟩
    refine W.seq ?_
    refine W.seq (W.region ?_)
    iterate 2 refine RW.v ?_
    refine RW.len (by kernel_rfl) (by kernel_rfl) rfl rfl rfl rfl (hlv.slf.len (e := 3) (by kernel_rfl)) (by kernel_rfl) ?_
    iterate 2 refine RW.v ?_
    refine RW.both _ _ rfl rfl rfl (fun hc156 => ?_) (fun hc156 => ?_)
    ·have hc156b := hc156
     have hc156 := of_decide_eq_true hc156
     have hkr : k < R.length := by omega
     iterate 2 refine RW.w ?_
     refine RW.idxF hlv.slf (by rfl) (by kernel_rfl) rfl Tryd.underlying48 (by kernel_rfl) rfl rfl ⟨by omega, by omega⟩ (by kernel_rfl) ?_
     intro b157 q158 r159 hF160 hE161
     rw [intz_x (l := R) (j := k) (i := ((k : Nat) : Int)) hy (by omega) (by omega)] at hE161
     refine RW.loads 1 (by rfl) (by kernel_rfl) rfl rfl (H.old _ _ hF160) hE161 rfl (by kernel_rfl) ?_
     refine RW.w ?_
     refine RW.v ?_
     refine RW.nil ?_
     refine W.rg [(2, .pointer (some ⟨b1, 0, none⟩)), (3, .pointer (some ⟨b2, 0, none⟩)), (4, .pointer (some ⟨b3, 0, none⟩)), (5, lv), (7, .int .i64 ((i : Nat) : Int)), (8, .int .i64 ((k : Nat) : Int)), (100, .bool (y != 10))] fun TA => ?_
     refine W.cond rfl (fun hc162 => ?_) (fun hc162 => ?_)
     ·have hc162b := hc162
      have hc162 := bne_iff_ne.1 hc162
      have hy10 := hc162
      refine W.skip ?_
      refine W.block ?_
      refine W.region ?_
      refine RW.v ?_
      refine RW.valE (v' := .int .i64 (((k + 1) : Nat) : Int)) (by kernel_rfl) (by kernel_rfl) rfl (congrArg (Value.int .i64) ((wrap_in (by omega) (by omega)).trans (by omega))) (by kernel_rfl) ?_
      refine RW.v ?_
      refine RW.nil ?_
      refine blkQ_normal ?_
      exact ⟨rfl, m2 - 1, by omega, k + 1, (by omega), (by omega), (by omega), (no_snoc hik hkr hno hy hy10), H, rfl, rfl, rfl, rfl, rfl, rfl⟩
     ·have hc162b := hc162
      have hc162 := (bne_eq_false_iff_eq.1) hc162
      have hy10 := hc162
      refine W.exit _ ?_
      refine seqQ_exit ?_
      refine rndQ_exit ?_
      refine blkQ_here ?_
      refine W.seq ?_
      refine W.drawn (by kernel_rfl) (by kernel_rfl) H.gn ?_
      have H163 := H
      refine RW.v ?_
      refine RW.ld H163 1 1 ?_
      iterate 2 refine RW.v ?_
      refine RW.idxF hlv.slf (by kernel_rfl) (by kernel_rfl) rfl Tryd.underlying48 (by kernel_rfl) rfl rfl ⟨by omega, by omega⟩ (by kernel_rfl) ?_
      intro b164 q165 r166 hF167 hE168
      rw [intz_x (l := R) (j := i) (i := ((i : Nat) : Int)) hx (by omega) (by omega)] at hE168
      refine RW.loads 1 (by kernel_rfl) (by kernel_rfl) rfl rfl (H163.old _ _ hF167) hE168 rfl (by kernel_rfl) ?_
      iterate 2 refine RW.v ?_
      refine RW.valE (v' := .int .i64 (((i + 1) : Nat) : Int)) (by kernel_rfl) (by kernel_rfl) rfl (congrArg (Value.int .i64) ((wrap_in (by omega) (by omega)).trans (by omega))) (by kernel_rfl) ?_
      refine RW.v ?_
      obtain ⟨q1, q2, q3, q4, hsv, hks⟩ := slk_mid (P := Tryd.prog) (t := 48) (e := 3) (i := i + 1) (j := k) hlv (by omega) (by kernel_rfl) (by kernel_rfl) hik hkl (a := (((i + 1) : Nat) : Int)) (b := ((k : Nat) : Int)) (by omega) (by omega)
      obtain ⟨p, hp⟩ : ∃ p, p = (R.drop (i + 1)).take (k - (i + 1)) := ⟨_, rfl⟩
      have hpl : p.length = k - (i + 1) := by rw [hp, List.length_take, List.length_drop]; omega
      have hks2 : SlF F 1 (.slice (some ⟨q1, q2, q3⟩) (k - (i + 1)) q4) p.length (p.map (Value.int .i64)) := by rw [hpl, hp, List.map_take, List.map_drop]; exact hks.slf
      refine RW.vop (v := .slice (some ⟨q1, q2, q3⟩) (k - (i + 1)) q4) (by kernel_rfl) (by kernel_rfl) (vop_slice rfl hsv) (by kernel_rfl) ?_
      refine RW.cl ?_
      refine ((rtext_wc (xs := p) hks2 (by omega) H163).mono ?_)
      rintro _ _ ⟨rfl, H169⟩
      rw [text_part hv hR hp]
      refine RW.val (v := .agg #[.int .i64 x, .string ⟨(encA p).toArray⟩]) (by kernel_rfl) (by kernel_rfl) (by kernel_rfl) (by kernel_rfl) ?_
      refine RW.mkD H169 (x := .row ⟨[.int .i64 x, .string ⟨(encA p).toArray⟩], 29, false⟩) (fm := fun b => .slice (some ⟨b, 0, none⟩) 1 1) (by kernel_rfl) (by kernel_rfl) (by kernel_rfl) (by kernel_rfl) ?_
      intro _ b170 H171
      refine RW.appLD H171 1 0 (n := 1) (e2 := 29) (by kernel_rfl) (by kernel_rfl) rfl rfl rfl rfl rfl rfl rfl (.inl rfl) rfl (by kernel_rfl) (by kernel_rfl) (by kernel_rfl) (by decide) (by decide) rfl rfl (by omega) (by kernel_rfl) ?_
      intro _ v172 H173
      dsimp only [setL, delL] at H173
      refine RW.v ?_
      refine RW.stD H173 1 (vs := [v172]) (cs' := [.bool w, .bool e, .bool h, v172]) (by kernel_rfl) (by kernel_rfl) rfl rfl rfl (H173.sl 0 rfl).one (gr_all (H173.sl 0 rfl)) (by kernel_rfl) (Nat.le_of_ble_eq_true rfl) rfl (by kernel_rfl) ?_
      intro _ H174
      dsimp only [setL, delL] at H174
      refine RW.nil ?_
      refine ⟨⟨by kernel_rfl, ⟨trivial, dyn_rowM (H163.get 1 rfl) (Or.inl (by kernel_rfl)) ⟨nB, nB, nB, nB, nB, nB, nB, nB, nB, nB, nB, fun _ => Or.inr (H163.get 1 rfl), nB, nB, fun _ => Or.inr (H171.get 2 rfl), nB, fun _ => Or.inl (by kernel_rfl), trivial⟩, trivial, trivial, trivial, dyn_row (H163.old _ _ hF167) (H174.old _ _ hF167) ⟨nB, nB, nB, nB, nB, nB, nB, nB, nB, nB, nB, fun _ => H163.old _ _ hF167, nB, nB, fun _ => H171.old _ _ hF167, nB, fun _ => H173.old _ _ hF167, trivial⟩, trivial, trivial, trivial, trivial, trivial, trivial, trivial, Or.inl (by kernel_rfl), trivial, trivial, trivial, trivial⟩⟩, ?_⟩
      replace H := H174
      clear H163 H169 H171 H173 H174
      refine W.rg [(2, .pointer (some ⟨b1, 0, none⟩)), (3, .pointer (some ⟨b2, 0, none⟩)), (4, .pointer (some ⟨b3, 0, none⟩)), (5, lv), (8, .int .i64 ((k : Nat) : Int))] fun TA => ?_
      refine W.region ?_
      refine RW.v ?_
      refine RW.valE (v' := .int .i64 (((k + 1) : Nat) : Int)) (by kernel_rfl) (by kernel_rfl) rfl (congrArg (Value.int .i64) ((wrap_in (by omega) (by omega)).trans (by omega))) (by kernel_rfl) ?_
      refine RW.v ?_
      refine RW.nil ?_
      refine blkQ_normal ?_
      rw [needC_snoc2, show acc.length + 1 = (acc ++ [(x, encA p)]).length by rw [List.length_append]; rfl] at H
      exact ⟨rfl, R.length + 1 - (k + 1), by omega, (k + 1), acc ++ [(x, encA p)], v172, (by omega), (by rw [List.length_append, List.length_singleton]; omega), (Nat.le_refl _), (by rw [hp]; exact line_step hir hik hkl hno (.inr (by rw [← hy]; exact hy10)) hx hcd hT), H, rfl, rfl, rfl, rfl, rfl⟩
    ·have hc156b := hc156
     have hc156 := of_decide_eq_false hc156
     iterate 5 refine RW.s ?_
     refine RW.v ?_
     refine RW.nil ?_
     refine W.c0 ?_
     refine W.exit _ ?_
     refine seqQ_exit ?_
     refine rndQ_exit ?_
     refine blkQ_here ?_
     refine W.seq ?_
     refine W.drawn (by kernel_rfl) (by kernel_rfl) H.gn ?_
     have H175 := H
     refine RW.v ?_
     refine RW.ld H175 1 1 ?_
     iterate 2 refine RW.v ?_
     refine RW.idxF hlv.slf (by kernel_rfl) (by kernel_rfl) rfl Tryd.underlying48 (by kernel_rfl) rfl rfl ⟨by omega, by omega⟩ (by kernel_rfl) ?_
     intro b176 q177 r178 hF179 hE180
     rw [intz_x (l := R) (j := i) (i := ((i : Nat) : Int)) hx (by omega) (by omega)] at hE180
     refine RW.loads 1 (by kernel_rfl) (by kernel_rfl) rfl rfl (H175.old _ _ hF179) hE180 rfl (by kernel_rfl) ?_
     iterate 2 refine RW.v ?_
     refine RW.valE (v' := .int .i64 (((i + 1) : Nat) : Int)) (by kernel_rfl) (by kernel_rfl) rfl (congrArg (Value.int .i64) ((wrap_in (by omega) (by omega)).trans (by omega))) (by kernel_rfl) ?_
     refine RW.v ?_
     obtain ⟨q1, q2, q3, q4, hsv, hks⟩ := slk_mid (P := Tryd.prog) (t := 48) (e := 3) (i := i + 1) (j := k) hlv (by omega) (by kernel_rfl) (by kernel_rfl) hik hkl (a := (((i + 1) : Nat) : Int)) (b := ((k : Nat) : Int)) (by omega) (by omega)
     obtain ⟨p, hp⟩ : ∃ p, p = (R.drop (i + 1)).take (k - (i + 1)) := ⟨_, rfl⟩
     have hpl : p.length = k - (i + 1) := by rw [hp, List.length_take, List.length_drop]; omega
     have hks2 : SlF F 1 (.slice (some ⟨q1, q2, q3⟩) (k - (i + 1)) q4) p.length (p.map (Value.int .i64)) := by rw [hpl, hp, List.map_take, List.map_drop]; exact hks.slf
     refine RW.vop (v := .slice (some ⟨q1, q2, q3⟩) (k - (i + 1)) q4) (by kernel_rfl) (by kernel_rfl) (vop_slice rfl hsv) (by kernel_rfl) ?_
     refine RW.cl ?_
     refine ((rtext_wc (xs := p) hks2 (by omega) H175).mono ?_)
     rintro _ _ ⟨rfl, H181⟩
     rw [text_part hv hR hp]
     refine RW.val (v := .agg #[.int .i64 x, .string ⟨(encA p).toArray⟩]) (by kernel_rfl) (by kernel_rfl) (by kernel_rfl) (by kernel_rfl) ?_
     refine RW.mkD H181 (x := .row ⟨[.int .i64 x, .string ⟨(encA p).toArray⟩], 29, false⟩) (fm := fun b => .slice (some ⟨b, 0, none⟩) 1 1) (by kernel_rfl) (by kernel_rfl) (by kernel_rfl) (by kernel_rfl) ?_
     intro _ b182 H183
     refine RW.appLD H183 1 0 (n := 1) (e2 := 29) (by kernel_rfl) (by kernel_rfl) rfl rfl rfl rfl rfl rfl rfl (.inl rfl) rfl (by kernel_rfl) (by kernel_rfl) (by kernel_rfl) (by decide) (by decide) rfl rfl (by omega) (by kernel_rfl) ?_
     intro _ v184 H185
     dsimp only [setL, delL] at H185
     refine RW.v ?_
     refine RW.stD H185 1 (vs := [v184]) (cs' := [.bool w, .bool e, .bool h, v184]) (by kernel_rfl) (by kernel_rfl) rfl rfl rfl (H185.sl 0 rfl).one (gr_all (H185.sl 0 rfl)) (by kernel_rfl) (Nat.le_of_ble_eq_true rfl) rfl (by kernel_rfl) ?_
     intro _ H186
     dsimp only [setL, delL] at H186
     refine RW.nil ?_
     refine ⟨⟨by kernel_rfl, ⟨trivial, dyn_rowM (H175.get 1 rfl) (Or.inl (by kernel_rfl)) ⟨nB, nB, nB, nB, nB, nB, nB, nB, nB, nB, nB, fun _ => Or.inr (H175.get 1 rfl), nB, nB, fun _ => Or.inr (H183.get 2 rfl), nB, fun _ => Or.inl (by kernel_rfl), trivial⟩, trivial, trivial, trivial, dyn_row (H175.old _ _ hF179) (H186.old _ _ hF179) ⟨nB, nB, nB, nB, nB, nB, nB, nB, nB, nB, nB, fun _ => H175.old _ _ hF179, nB, nB, fun _ => H183.old _ _ hF179, nB, fun _ => H185.old _ _ hF179, trivial⟩, trivial, trivial, trivial, trivial, trivial, trivial, trivial, Or.inl (by kernel_rfl), trivial, trivial, trivial, trivial⟩⟩, ?_⟩
     replace H := H186
     clear H175 H181 H183 H185 H186
     refine W.rg [(2, .pointer (some ⟨b1, 0, none⟩)), (3, .pointer (some ⟨b2, 0, none⟩)), (4, .pointer (some ⟨b3, 0, none⟩)), (5, lv), (8, .int .i64 ((k : Nat) : Int))] fun TA => ?_
     refine W.region ?_
     refine RW.v ?_
     refine RW.valE (v' := .int .i64 (((k + 1) : Nat) : Int)) (by kernel_rfl) (by kernel_rfl) rfl (congrArg (Value.int .i64) ((wrap_in (by omega) (by omega)).trans (by omega))) (by kernel_rfl) ?_
     refine RW.v ?_
     refine RW.nil ?_
     refine blkQ_normal ?_
     rw [needC_snoc2, show acc.length + 1 = (acc ++ [(x, encA p)]).length by rw [List.length_append]; rfl] at H
     exact ⟨rfl, R.length + 1 - (k + 1), by omega, (k + 1), acc ++ [(x, encA p)], v184, (by omega), (by rw [List.length_append, List.length_singleton]; omega), (Nat.le_refl _), (by rw [hp]; exact line_step hir hik hkl hno (.inl (by omega)) hx hcd hT), H, rfl, rfl, rfl, rfl, rfl⟩
  ·have hc149b := hc149
   have hc149 := of_decide_eq_false hc149
   refine W.exit _ ?_
   refine seqQ_exit ?_
   refine rndQ_exit ?_
   refine blkQ_here ?_
   refine W.seq (W.region ?_)
   refine RW.ld H 1 4 ?_
   refine RW.val (v := .agg #[.int .i64 0, .int .i64 0]) (by kernel_rfl) (by kernel_rfl) (by kernel_rfl) (by kernel_rfl) ?_
   refine RW.stL H 3 (vs := [.bool w, .bool e, .bool h, u]) (cs' := [.bool w, .bool e, .bool h, u]) (by kernel_rfl) (by kernel_rfl) rfl rfl rfl (by rcases gr_forms (H.sl 0 rfl) with rfl | ⟨_, _, _, rfl⟩ <;> rfl) (by rcases gr_forms (H.sl 0 rfl) with rfl | ⟨_, _, _, rfl⟩ <;> rfl) (by kernel_rfl) (Nat.le_of_ble_eq_true rfl) rfl (by kernel_rfl) ?_
   clear H; intro _ _ H; dsimp only [setL, delL] at H
   refine RW.st H 2 [.int .i64 0, .int .i64 0] [.int .i64 0, .int .i64 0] ?_
   clear H; intro _ _ H; dsimp only [setL, delL] at H
   refine RW.nil ?_
   replace H := (H.del 1)
   dsimp only [setL, delL] at H
   refine W.ret ?_
   refine endG (by rfl) (by exact resL_cell rfl (H.get 2 rfl) (by rw [uT_eq]; exact Tryd.underlying24) (by kernel_rfl) rfl rfl (by exact resL_cell rfl (H.get 1 rfl) (by rw [uT_eq]; exact Tryd.underlying33) (by kernel_rfl) rfl rfl rfl)) ?_
   have hpn := parse_none (acc := acc) hv (by rw [← hTd, hT, List.drop_eq_nil_of_le (by omega)]; show (acc ++ [], none) = _; rw [List.append_nil])
   obtain ⟨F, le, hS, H⟩ := H.freezeSl 0 rfl
   dsimp only [setL, delL] at H
   replace le0 := fun b y h => le b y (le0 b y h)
   rw [hpn, ← hw, ← he, ← hh]
   exact ⟨F, _, le0, rfl, hS, ((H.del 1).del 0)⟩
end Go.Proofs.YthemeeiedlbhkaaDoor
