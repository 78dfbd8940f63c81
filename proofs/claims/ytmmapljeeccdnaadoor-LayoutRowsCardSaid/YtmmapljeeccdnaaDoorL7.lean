/-
 The reference: the rows of a line. Conditions: none.
 The reference: Rows. Conditions: none.
 Rows of any arguments; rows overwritten; copies of parts. Conditions: the tables of unicode/utf8 lie.
 LayoutRows in the second memory. Conditions: none.
-/
import Derived.Test.YtmmapljeeccdnaaDoorL6
import Derived.Test.YtmmapljeeccdnaaDoorK3
import Derived.Test.YtmmapljeeccdnaaDoorL2
namespace Go.Proofs.YtmmapljeeccdnaaDoor
set_option maxRecDepth 100000
open Go.Lib Go.RowKit
theorem RW.appFB {P : Program} {G nt : Nat} {ops : Array Oper} {l : List Oper} {o : Oper} {ta : Nat → Value} {σ : Mem} {rs : List (Rec × Mem)} {A : Abs} {F : Nat → Option Blk2} {L : List Ent} {K : (Nat → Value) → Mem → Prop} (H : Lies G A F σ L) (k : Nat) {c : Call} {s_ x_ : Operand} {t u e e2 s n l0 : Nat} {v xv : Value} {xs ys : List Value} (hs : SlF F s xv n ys) (hw : wantedT ops ta o = true) (hk : opndOk G o = true) (ho : o.op = .call c) (hc : c.callee = .builtin .append) (ha : c.args = #[s_, x_]) (ht : c.argTypes = #[t, u]) (hsv : oper2 ta s_ = v) (hxv : oper2 ta x_ = xv)
  (hl : lookL L k = some (.sl e s v l0 xs)) (htt : uT P t = some (.slice e)) (huu : uT P u = some (.slice e2)) (hi : infoB P e s 512 = true) (hs0 : 0 < s) (hone : ys.all (·.oneCell') = true) (hb : l0 + n ≤ 1000000) (hd : dstOk nt o.dst = true)
  (h : ∀ σ' v' rs', Lies G A F σ' (setL L k (.sl e s v' (l0 + n) (xs ++ ys))) → RW G P nt ops l (putO ta o.dst v') σ' rs' fun _ => K) : RW G P nt ops (o :: l) ta σ rs fun _ => K := by
 obtain ⟨i, z, h1, h2, h3, h4, h5⟩ := infoB_ok hi
 have hg := H.sl k hl
 have hsrc : srcG (.slice e2) i z σ xv = some (n, ys) := by
  show srcF σ i.size xv = _
  rw [h4]
  exact slf_src hs hs0 H.old
 by_cases hn : n = 0
 ·subst hn
  have hy : ys = [] := List.eq_nil_of_length_eq_zero (by rw [hs.length, Nat.zero_mul])
  subst hy
  have k1 : appendF G P σ t u v xv = some (v, .same) := by
   unfold appendF
   rw [htt, huu]
   simp only [h1, h2]
   rw [if_pos ⟨h3, by omega⟩]
   simp only [hsrc, if_pos trivial]
   cases hg with
   | nil => rfl
   | row hq hr ht hc hlc hx => exact if_pos hlc
  rw [← hsv, ← hxv] at k1
  refine RW.append hw hk ho hc ha ht k1 hd (h _ _ _ ?_)
  rw [List.append_nil, Nat.add_zero, hsv, setL_same hl]
  exact H
 ·have hmul : (l0 + n) * i.bytes ≤ 1000000 * 512 := Nat.mul_le_mul hb h5
  obtain ⟨v', cmd, k1, k2, k3, k4, k5, k6⟩ := grow_append (P := P) hg H.gn htt huu h1 h2 h3 h4 hs0 hsrc (by omega) hone ⟨by omega, by omega⟩
  rw [← hsv, ← hxv] at k1
  refine RW.append hw hk ho hc ha ht k1 hd (h _ _ _ (H.grown k hl k2 k3 k4 k5 fun b hb => ?_))
  rcases k6 with k6 | k6
  ·exact .inl (k6 ▸ hb)
  ·rw [k6] at hb
   cases hb
   exact .inr (Nat.le_refl _)

theorem AllRow.nil {F : Nat → Option Blk2} : AllRow F [] [] [] := ⟨rfl, rfl, fun j hj => absurd hj (Nat.not_lt_zero _)⟩
theorem AllRow.app2 {F : Nat → Option Blk2} {cs ps : List Value} {l : List RowV} {c p : Value} {r : RowV} (a : AllRow F cs ps l) (h1 : SlF F 6 c r.C.length (cC r.C)) (h2 : SlF F 1 p r.P.length (r.P.map (Value.int .i64))) : AllRow F (cs ++ [c]) (ps ++ [p]) (l ++ [r]) := by
 have a1 := a.1
 have a2 := a.2.1
 refine ⟨by rw [List.length_append, List.length_append, a.1]; rfl, by rw [List.length_append, List.length_append, a.2.1]; rfl, fun j hj => ?_⟩
 rw [List.length_append, List.length_singleton] at hj
 rcases Nat.lt_or_ge j l.length with hji | hji
 ·have := a.2.2 j hji
  rw [getD_left (by omega), getD_left (by omega), getD_left (by omega)]
  exact this
 ·rw [getD_last (show j = cs.length by omega), getD_last (show j = ps.length by omega), getD_last (show j = l.length by omega)]
  exact ⟨h1, h2⟩
theorem getD_right {α : Type} {a b : List α} {j : Nat} {d : α} (h : a.length ≤ j) : (a ++ b).getD j d = b.getD (j - a.length) d := by
 rw [List.getD_eq_getElem?_getD, List.getElem?_append_right h, ← List.getD_eq_getElem?_getD]
theorem AllRow.append {F : Nat → Option Blk2} {cs ps cs2 ps2 : List Value} {l l2 : List RowV} (a : AllRow F cs ps l) (b : AllRow F cs2 ps2 l2) : AllRow F (cs ++ cs2) (ps ++ ps2) (l ++ l2) := by
 have a1 := a.1
 have a2 := a.2.1
 refine ⟨by rw [List.length_append, List.length_append, a.1, b.1], by rw [List.length_append, List.length_append, a.2.1, b.2.1], fun j hj => ?_⟩
 rw [List.length_append] at hj
 rcases Nat.lt_or_ge j l.length with hji | hji
 ·have := a.2.2 j hji
  rw [getD_left (by omega), getD_left (by omega), getD_left (by omega)]
  exact this
 ·have := b.2.2 (j - l.length) (by omega)
  rw [getD_right (by omega), getD_right (by omega), getD_right (by omega), a1, a2]
  exact this
theorem rowsV_append : ∀ {cs ps cs2 ps2 : List Value} {l l2 : List RowV}, cs.length = l.length → ps.length = l.length → rowsV (cs ++ cs2) (ps ++ ps2) (l ++ l2) = rowsV cs ps l ++ rowsV cs2 ps2 l2
 | [], [], _, _, [], _, _, _ => rfl
 | a :: cs, b :: ps, cs2, ps2, x :: l, l2, h1, h2 => by
  show a :: b :: _ :: _ :: _ :: rowsV (cs ++ cs2) (ps ++ ps2) (l ++ l2) = a :: b :: _ :: _ :: _ :: (rowsV cs ps l ++ _)
  rw [rowsV_append (l := l) (by simpa using h1) (by simpa using h2)]
 | [], _ :: _, _, _, l, _, h1, h2 => by cases l <;> simp at h1 h2
 | _ :: _, [], _, _, l, _, h1, h2 => by cases l <;> simp at h1 h2
theorem room_full {wd : Nat} {us : List Un} (h : roomM wd 0 us = us.length) : sumX us ≤ wd - 1 := by
 have := room_sum wd 0 us (Nat.zero_le _)
 rw [h, List.take_length] at this
 omega
theorem room_fit (wd : Nat) (us : List Un) : sumX (us.take (roomM wd 0 us)) ≤ wd - 1 := by
 have := room_sum wd 0 us (Nat.zero_le _)
 omega
theorem room_ne {wd : Nat} {us : List Un} (h4 : 4 ≤ wd) (g : GoodU us) (h : roomM wd 0 us ≠ us.length) : us.take (roomM wd 0 us) ≠ [] := by
 have hne : us ≠ [] := fun e => h (by subst e; rfl)
 have h1 := room_pos h4 g hne
 have h2 := List.length_pos_iff.2 hne
 refine List.length_pos_iff.1 ?_
 rw [List.length_take]
 omega
theorem rowK_len {wd : Nat} {us : List Un} {e mark : Int} (h4 : 4 ≤ wd) (hfit : sumX us ≤ wd - 1) : (rowK wd us e mark).C.length = wd ∧ (rowK wd us e mark).P.length = wd := by
 have h := (filA_ok hfit (by omega)).1
 unfold rowK
 split
 ·exact ⟨(ok_end (pos := e) h).1, (ok_end (pos := e) h).2.1⟩
 ·exact ⟨(ok_mark (c := mark) h).1, (ok_mark (c := mark) h).2.1⟩
section
variable {G : Nat} {A : Abs} {σ : Mem} {F : Nat → Option Blk2} {L : List Ent} {e mark : Int} {wd : Nat} {wrap : Bool}
theorem r_rowW {us : List Un} {cs : List Value} {v : Value} (h4 : 4 ≤ wd) (h5 : wd ≤ 1000) (g : GoodU us) (nf : NoFd us) (hfit : sumX us ≤ wd - 1) (hl : us.length ≤ 1000000) (hmk : mark ≠ 0 → us ≠ []) (hs : SlF F 3 v us.length (unV cs us)) (ac : AllU F cs us) (H : Lies G A F σ L) : WC G Tryd.prog 59 #[v, .int .i64 ((wd : Nat) : Int), .int .i64 e, .int .i64 mark] σ fun r σ' => ∃ F' cv pv, Le F F' ∧ r = .agg #[cv, pv, .int .i64 (rowK wd us e mark).fr, .int .i64 0, .bool false] ∧ SlF F' 6 cv (rowK wd us e mark).C.length (cC (rowK wd us e mark).C) ∧ SlF F' 1 pv (rowK wd us e mark).P.length ((rowK wd us e mark).P.map (Value.int .i64)) ∧ Lies G A F' σ' L := by
 have h := r_row (e := e) (mark := mark) h4 h5 g nf hfit hl hmk hs ac H
 have k := rowK_len (e := e) (mark := mark) h4 hfit
 rw [k.1, k.2]
 exact h
set_option maxHeartbeats 16000000 in
theorem r_laid {us : List Un} {cs : List Value} {v : Value} (h4 : 4 ≤ wd) (h5 : wd ≤ 1000) (g : GoodU us) (nf : NoFd us) (hl : us.length ≤ 900000) (hk : SlK F 3 v us.length (unV cs us)) (ac : AllU F cs us) (H : Lies G A F σ L) : WC G Tryd.prog 39 #[v, .int .i64 e, .int .i64 ((wd : Nat) : Int), .bool wrap] σ fun r σ' => ∃ F' c2 p2, Le F F' ∧ SlF F' 5 r (laidR wd wrap e us).length (rowsV c2 p2 (laidR wd wrap e us)) ∧ AllRow F' c2 p2 (laidR wd wrap e us) ∧ Lies G A F' σ' L := by
 obtain ⟨F0, hF⟩ : ∃ F0, F0 = F := ⟨_, rfl⟩
 have le0 : Le F0 F := fun b y h => hF ▸ h
 rw [← hF]
 have hk0 := hk
 refine WC.enter (fn := Tryd.f39) Tryd.func39 rfl ?_
 refine W.rg [(0, v), (1, .int .i64 e), (2, .int .i64 ((wd : Nat) : Int)), (3, .bool wrap)] fun TA => ?_
 refine W.seq (W.region ?_)
 refine RW.v ?_
 refine RW.nil ?_
 refine W.rg [(0, v), (1, .int .i64 e), (2, .int .i64 ((wd : Nat) : Int)), (3, .bool wrap)] fun TA => ?_
 refine W.seq (W.region ?_)
 iterate 2 refine RW.v ?_
 refine RW.cl ?_
 refine ((r_room h4 h5 g (Nat.le_trans hl (by decide)) hk.slf ac H).mono ?_)
 clear H
 rintro _ _ ⟨rfl, H⟩
 refine RW.v ?_
 refine RW.nil ?_
 refine W.rg [(0, v), (1, .int .i64 e), (2, .int .i64 ((wd : Nat) : Int)), (3, .bool wrap), (9, .int .i64 (((roomM wd 0 us) : Nat) : Int))] fun TA => ?_
 refine W.seq ?_
 refine W.seq (W.region ?_)
 iterate 2 refine RW.v ?_
 refine RW.len (by kernel_rfl) (by kernel_rfl) rfl rfl rfl rfl (hk.slf.len (e := 73) (by kernel_rfl)) (by kernel_rfl) ?_
 refine RW.v ?_
 refine RW.nil ?_
 refine W.rg [(0, v), (1, .int .i64 e), (2, .int .i64 ((wd : Nat) : Int)), (3, .bool wrap), (9, .int .i64 (((roomM wd 0 us) : Nat) : Int)), (18, .bool ((((roomM wd 0 us) : Nat) : Int) == (us.length : Int)))] fun TA => ?_
 refine W.cond rfl (fun hc1 => ?_) (fun hc1 => ?_)
 ·have hc1b := hc1
  have hc1 := eq_of_beq hc1
  have hfull : roomM wd 0 us = us.length := by omega
  have hfit := room_full hfull
  refine W.seq (W.region ?_)
  iterate 3 refine RW.v ?_
  have eco7 : (filA wd us).co = false := (filA_ok hfit (by omega)).2.2
  refine RW.cl ?_
  refine ((r_rowW (e := e) (mark := 0) h4 h5 g nf hfit (Nat.le_trans hl (by decide)) (fun h => absurd rfl h) hk.slf ac H).mono ?_)
  clear H
  rintro _ _ ⟨F, cv2, pv3, le, hr6, hc4, hp5, H⟩
  rw [show rowK wd us e 0 = (rowOf (endF (filA wd us) e)) from if_pos rfl] at hr6 hc4 hp5
  subst hr6
  replace le0 := fun b y h => le b y (le0 b y h)
  replace ac := ac.le le
  refine RW.mkL H (x := .row ⟨[cv2, pv3, .int .i64 ((rowOf (endF (filA wd us) e)).fr), .int .i64 0, .bool false], 39, false⟩) (fm := fun b => .slice (some ⟨b, 0, none⟩) 1 1) (by kernel_rfl) (by kernel_rfl) (by rcases slf_forms hc4 with rfl | ⟨_, rfl⟩ | ⟨_, _, _, _, _, rfl⟩ <;> rcases slf_forms hp5 with rfl | ⟨_, rfl⟩ | ⟨_, _, _, _, _, rfl⟩ <;> kernel_rfl) (by kernel_rfl) ?_
  clear H; intro _ b8 _ H
  refine RW.v ?_
  refine RW.nil ?_
  refine W.ret ?_
  refine seqQ_ret ?_
  refine endG (by rfl) (by exact resL_tmp rfl) ?_
  have eL : laidR wd wrap e us = [(rowOf (endF (filA wd us) e))] := by unfold laidR; cases wrap; exact if_pos hfull; exact lw_end hfull
  rw [eL]
  obtain ⟨F', le2, hq, H⟩ := H.freeze 0 rfl
  dsimp only [setL, delL] at H
  have eV : rowsV [cv2] [pv3] [(rowOf (endF (filA wd us) e))] = [cv2, pv3, .int .i64 (rowOf (endF (filA wd us) e)).fr, .int .i64 0, .bool false] := by show [cv2, pv3, .int .i64 (rowOf (endF (filA wd us) e)).fr, .int .i64 0, .bool (filA wd _).co] = _; rw [eco7]
  exact ⟨F', [cv2], [pv3], fun b y h => le2 b y (le0 b y h), by rw [eV]; exact .some hq rfl rfl, (AllRow.nil (F := F')).app2 (r := (rowOf (endF (filA wd us) e))) (hc4.le le2) (hp5.le le2), H⟩
 ·have hc1b := hc1
  have hc1 := ne_of_beq_false hc1
  have hnl : roomM wd 0 us ≠ us.length := by omega
  have hnek := room_ne h4 g hnl
  refine W.skip ?_
  refine W.seq ?_
  refine W.seq (W.region ?_)
  iterate 2 refine RW.v ?_
  refine RW.nil ?_
  refine W.rg [(0, v), (1, .int .i64 e), (2, .int .i64 ((wd : Nat) : Int)), (9, .int .i64 (((roomM wd 0 us) : Nat) : Int)), (25, .bool (!wrap))] fun TA => ?_
  refine W.cond rfl (fun hc9 => ?_) (fun hc9 => ?_)
  ·have hc9b := hc9
   have hw : wrap = false := by simpa using hc9b
   refine W.seq (W.region ?_)
   iterate 2 refine RW.v ?_
   obtain ⟨sv10, hv11, hk12⟩ := slk_cut (P := Tryd.prog) (t := 68) (e := 73) (i := (roomM wd 0 us)) hk (by kernel_rfl) (by kernel_rfl) (room_le _ _ _)
   rw [unV_take ac.1] at hk12
   have hk13 : SlK F 3 sv10 (us.take (roomM wd 0 us)).length (unV (cs.take (roomM wd 0 us)) (us.take (roomM wd 0 us))) := by rw [show (us.take (roomM wd 0 us)).length = (roomM wd 0 us) by rw [List.length_take]; have := room_le wd 0 us; omega]; exact hk12
   refine RW.vop (v := sv10) (by kernel_rfl) (by kernel_rfl) (vop_slice rfl hv11) (by kernel_rfl) ?_
   iterate 2 refine RW.v ?_
   have eco19 : (filA wd (us.take (roomM wd 0 us))).co = false := (filA_ok (room_fit wd us) (by omega)).2.2
   refine RW.cl ?_
   refine ((r_rowW (e := e) (mark := 36) h4 h5 (goodU_take g (roomM wd 0 us)) (noFd_take nf (roomM wd 0 us)) (room_fit wd us) (Nat.le_trans (by rw [List.length_take]; omega) (Nat.le_trans hl (by decide))) (fun _ => hnek) hk13.slf (ac.take (roomM wd 0 us)) H).mono ?_)
   clear H
   rintro _ _ ⟨F, cv14, pv15, le, hr18, hc16, hp17, H⟩
   rw [show rowK wd (us.take (roomM wd 0 us)) e 36 = (rowOf (markF (filA wd (us.take (roomM wd 0 us))) 36)) from if_neg (by decide)] at hr18 hc16 hp17
   subst hr18
   replace le0 := fun b y h => le b y (le0 b y h)
   replace ac := ac.le le
   refine RW.mkL H (x := .row ⟨[cv14, pv15, .int .i64 ((rowOf (markF (filA wd (us.take (roomM wd 0 us))) 36)).fr), .int .i64 0, .bool false], 39, false⟩) (fm := fun b => .slice (some ⟨b, 0, none⟩) 1 1) (by kernel_rfl) (by kernel_rfl) (by rcases slf_forms hc16 with rfl | ⟨_, rfl⟩ | ⟨_, _, _, _, _, rfl⟩ <;> rcases slf_forms hp17 with rfl | ⟨_, rfl⟩ | ⟨_, _, _, _, _, rfl⟩ <;> kernel_rfl) (by kernel_rfl) ?_
   clear H; intro _ b20 _ H
   refine RW.v ?_
   refine RW.nil ?_
   refine W.ret ?_
   refine seqQ_ret ?_
   refine endG (by rfl) (by exact resL_tmp rfl) ?_
   have eL : laidR wd wrap e us = [(rowOf (markF (filA wd (us.take (roomM wd 0 us))) 36))] := by unfold laidR; rw [hw, if_neg Bool.false_ne_true, if_neg hnl]
   rw [eL]
   obtain ⟨F', le2, hq, H⟩ := H.freeze 0 rfl
   dsimp only [setL, delL] at H
   have eV : rowsV [cv14] [pv15] [(rowOf (markF (filA wd (us.take (roomM wd 0 us))) 36))] = [cv14, pv15, .int .i64 (rowOf (markF (filA wd (us.take (roomM wd 0 us))) 36)).fr, .int .i64 0, .bool false] := by show [cv14, pv15, .int .i64 (rowOf (markF (filA wd (us.take (roomM wd 0 us))) 36)).fr, .int .i64 0, .bool (filA wd _).co] = _; rw [eco19]
   exact ⟨F', [cv14], [pv15], fun b y h => le2 b y (le0 b y h), by rw [eV]; exact .some hq rfl rfl, (AllRow.nil (F := F')).app2 (r := (rowOf (markF (filA wd (us.take (roomM wd 0 us))) 36))) (hc16.le le2) (hp17.le le2), H⟩
  ·have hc9b := hc9
   have hw : wrap = true := by simpa using hc9b
   refine W.skip ?_
   refine W.seq (W.region ?_)
   refine RW.v ?_
   refine RW.nil ?_
   refine W.rg [(0, v), (1, .int .i64 e), (2, .int .i64 ((wd : Nat) : Int)), (9, .int .i64 (((roomM wd 0 us) : Nat) : Int)), (10, .slice none 0 0)] fun TA => ?_
   refine W.seq ?_
   refine W.block ?_
   replace H := H.nilSl 39 5
   skip
   refine W.loop (fun mm ta σ => ∃ (F : Nat → Option Blk2) (vl : Value) (ul : List Un) (cl : List Value) (c2 : List Value) (p2 : List Value) (acc : List RowV) (u : Value), (ul.length ≤ mm) ∧ (Le F0 F) ∧ (SlK F 3 vl ul.length (unV cl ul)) ∧ (AllU F cl ul) ∧ (GoodU ul) ∧ (NoFd ul) ∧ (ul.length ≤ 900000) ∧ (AllRow F c2 p2 acc) ∧ (acc.length + ul.length ≤ us.length) ∧ (lw wd e (us.length + 1) us = acc ++ lw wd e (ul.length + 1) ul) ∧ Lies G A F σ (.sl 39 5 u acc.length (rowsV c2 p2 acc) :: (L)) ∧ ta 0 = vl ∧ ta 1 = .int .i64 e ∧ ta 2 = .int .i64 ((wd : Nat) : Int) ∧ ta 9 = .int .i64 (((roomM wd 0 ul) : Nat) : Int) ∧ ta 10 = u) us.length ?_ ?_
   ·exact ⟨F, v, us, cs, [], [], [], .slice none 0 0, (Nat.le_refl _), le0, hk, ac, g, nf, hl, AllRow.nil, (by simp), rfl, H, rfl, rfl, rfl, rfl, rfl⟩
   clear H
   rintro mm ta _ ⟨F, vl, ul, cl, c2, p2, acc, u, hm, le0, hkl, acl, gl, nfl, hll, ar, hacc, hT, H, e0, e1, e2, e9, e10⟩
   refine W.rst [(0, vl), (1, .int .i64 e), (2, .int .i64 ((wd : Nat) : Int)), (9, .int .i64 (((roomM wd 0 ul) : Nat) : Int)), (10, u)] ⟨e0, e1, e2, e9, e10, trivial⟩ fun TA => ?_
   clear e0 e1 e2 e9 e10
   refine W.seq ?_
   refine W.seq (W.region ?_)
   iterate 2 refine RW.v ?_
   refine RW.len (by kernel_rfl) (by kernel_rfl) rfl rfl rfl rfl (hkl.slf.len (e := 73) (by kernel_rfl)) (by kernel_rfl) ?_
   refine RW.v ?_
   refine RW.nil ?_
   refine W.rg [(0, vl), (1, .int .i64 e), (2, .int .i64 ((wd : Nat) : Int)), (9, .int .i64 (((roomM wd 0 ul) : Nat) : Int)), (10, u), (36, .bool (decide ((((roomM wd 0 ul) : Nat) : Int) < (ul.length : Int))))] fun TA => ?_
   refine W.cond rfl (fun hc21 => ?_) (fun hc21 => ?_)
   ·have hc21b := hc21
    have hc21 := of_decide_eq_true hc21
    have hnl : roomM wd 0 ul ≠ ul.length := by omega
    have hnek := room_ne h4 gl hnl
    have hrp := room_pos h4 gl (fun e => hnl (by subst e; rfl))
    refine W.skip ?_
    refine W.block ?_
    refine W.seq (W.region ?_)
    iterate 2 refine RW.v ?_
    obtain ⟨sv22, hv23, hk24⟩ := slk_cut (P := Tryd.prog) (t := 68) (e := 73) (i := (roomM wd 0 ul)) hkl (by kernel_rfl) (by kernel_rfl) (room_le _ _ _)
    rw [unV_take acl.1] at hk24
    have hk25 : SlK F 3 sv22 (ul.take (roomM wd 0 ul)).length (unV (cl.take (roomM wd 0 ul)) (ul.take (roomM wd 0 ul))) := by rw [show (ul.take (roomM wd 0 ul)).length = (roomM wd 0 ul) by rw [List.length_take]; have := room_le wd 0 ul; omega]; exact hk24
    refine RW.vop (v := sv22) (by kernel_rfl) (by kernel_rfl) (vop_slice rfl hv23) (by kernel_rfl) ?_
    iterate 2 refine RW.v ?_
    have eco31 : (filA wd (ul.take (roomM wd 0 ul))).co = false := (filA_ok (room_fit wd ul) (by omega)).2.2
    refine RW.cl ?_
    refine ((r_rowW (e := e) (mark := 92) h4 h5 (goodU_take gl (roomM wd 0 ul)) (noFd_take nfl (roomM wd 0 ul)) (room_fit wd ul) (Nat.le_trans (by rw [List.length_take]; omega) (Nat.le_trans hll (by decide))) (fun _ => hnek) hk25.slf (acl.take (roomM wd 0 ul)) H).mono ?_)
    clear H
    rintro _ _ ⟨F, cv26, pv27, le, hr30, hc28, hp29, H⟩
    rw [show rowK wd (ul.take (roomM wd 0 ul)) e 92 = (rowOf (markF (filA wd (ul.take (roomM wd 0 ul))) 92)) from if_neg (by decide)] at hr30 hc28 hp29
    subst hr30
    replace le0 := fun b y h => le b y (le0 b y h)
    replace acl := acl.le le
    replace hkl := hkl.le le
    replace ar := ar.le le
    refine RW.mk H (.row ⟨[.slice none 0 0, .slice none 0 0, .int .i64 0, .int .i64 0, .bool false], 39, false⟩) ?_
    clear H; intro _ b32 _ H
    refine RW.stL H 0 (vs := [cv26, pv27, .int .i64 ((rowOf (markF (filA wd (ul.take (roomM wd 0 ul))) 92)).fr), .int .i64 0, .bool false]) (cs' := [cv26, pv27, .int .i64 ((rowOf (markF (filA wd (ul.take (roomM wd 0 ul))) 92)).fr), .int .i64 0, .bool false]) (by kernel_rfl) (by kernel_rfl) rfl rfl rfl (by rcases slf_forms hc28 with rfl | ⟨_, rfl⟩ | ⟨_, _, _, _, _, rfl⟩ <;> rcases slf_forms hp29 with rfl | ⟨_, rfl⟩ | ⟨_, _, _, _, _, rfl⟩ <;> rfl) (by rcases slf_forms hc28 with rfl | ⟨_, rfl⟩ | ⟨_, _, _, _, _, rfl⟩ <;> rcases slf_forms hp29 with rfl | ⟨_, rfl⟩ | ⟨_, _, _, _, _, rfl⟩ <;> rfl) (by kernel_rfl) (Nat.le_of_ble_eq_true rfl) rfl (by kernel_rfl) ?_
    clear H; intro _ _ H; dsimp only [setL, delL] at H
    refine RW.nil ?_
    refine W.rg [(0, vl), (1, .int .i64 e), (2, .int .i64 ((wd : Nat) : Int)), (9, .int .i64 (((roomM wd 0 ul) : Nat) : Int)), (10, u), (11, .pointer (some ⟨b32, 0, none⟩))] fun TA => ?_
    refine W.seq (W.region ?_)
    refine RW.v ?_
    refine RW.st H 0 [.bool true] [cv26, pv27, .int .i64 ((rowOf (markF (filA wd (ul.take (roomM wd 0 ul))) 92)).fr), .int .i64 0, .bool true] ?_
    clear H; intro _ _ H; dsimp only [setL, delL] at H
    refine RW.nil ?_
    refine W.rg [(0, vl), (1, .int .i64 e), (2, .int .i64 ((wd : Nat) : Int)), (9, .int .i64 (((roomM wd 0 ul) : Nat) : Int)), (10, u), (11, .pointer (some ⟨b32, 0, none⟩))] fun TA => ?_
    refine W.seq (W.region ?_)
    refine RW.v ?_
    refine RW.ld H 0 5 ?_
    refine RW.mkL H (x := .row ⟨[cv26, pv27, .int .i64 ((rowOf (markF (filA wd (ul.take (roomM wd 0 ul))) 92)).fr), .int .i64 0, .bool true], 39, false⟩) (fm := fun b => .slice (some ⟨b, 0, none⟩) 1 1) (by kernel_rfl) (by kernel_rfl) (by rcases slf_forms hc28 with rfl | ⟨_, rfl⟩ | ⟨_, _, _, _, _, rfl⟩ <;> rcases slf_forms hp29 with rfl | ⟨_, rfl⟩ | ⟨_, _, _, _, _, rfl⟩ <;> kernel_rfl) (by kernel_rfl) ?_
    clear H; intro _ b33 _ H
    refine RW.appLB H 2 0 (n := 1) (e2 := 39) (by kernel_rfl) (by kernel_rfl) rfl rfl rfl rfl rfl rfl rfl (.inl rfl) rfl (by kernel_rfl) (by kernel_rfl) (by kernel_rfl) (by decide) (by decide) rfl (by rcases slf_forms hc28 with rfl | ⟨_, rfl⟩ | ⟨_, _, _, _, _, rfl⟩ <;> rcases slf_forms hp29 with rfl | ⟨_, rfl⟩ | ⟨_, _, _, _, _, rfl⟩ <;> rfl) (by omega) (by kernel_rfl) ?_
    clear H; intro _ v34 H
    dsimp only [setL, delL] at H
    refine RW.v ?_
    refine RW.nil ?_
    replace H := (H.del 0)
    dsimp only [setL, delL] at H
    refine W.rg [(0, vl), (1, .int .i64 e), (2, .int .i64 ((wd : Nat) : Int)), (9, .int .i64 (((roomM wd 0 ul) : Nat) : Int)), (10, v34)] fun TA => ?_
    refine W.seq (W.region ?_)
    iterate 2 refine RW.v ?_
    obtain ⟨sv35, hv36, hk37⟩ := slk_rest (P := Tryd.prog) (t := 68) (e := 73) (i := (roomM wd 0 ul)) hkl (by kernel_rfl) (by kernel_rfl) (room_le _ _ _)
    rw [unV_drop acl.1] at hk37
    have hk38 : SlK F 3 sv35 (ul.drop (roomM wd 0 ul)).length (unV (cl.drop (roomM wd 0 ul)) (ul.drop (roomM wd 0 ul))) := by rw [List.length_drop]; exact hk37
    refine RW.vop (v := sv35) (by kernel_rfl) (by kernel_rfl) (vop_slice rfl hv36) (by kernel_rfl) ?_
    refine RW.v ?_
    refine RW.nil ?_
    refine W.rg [(0, sv35), (1, .int .i64 e), (2, .int .i64 ((wd : Nat) : Int)), (10, v34)] fun TA => ?_
    refine W.region ?_
    iterate 2 refine RW.v ?_
    refine RW.cl ?_
    refine ((r_room h4 h5 (goodU_drop gl (roomM wd 0 ul)) (Nat.le_trans (by rw [List.length_drop]; omega) (Nat.le_trans hll (by decide))) hk38.slf (acl.drop (roomM wd 0 ul)) H).mono ?_)
    clear H
    rintro _ _ ⟨rfl, H⟩
    refine RW.v ?_
    refine RW.nil ?_
    refine blkQ_normal ?_
    have ar2 := ar.app2 (c := cv26) (p := pv27) (r := (rowOf (wrapF (filA wd (ul.take (roomM wd 0 ul)))))) hc28 hp29
    have eR : rowsV c2 p2 acc ++ [cv26, pv27, .int .i64 (rowOf (markF (filA wd (ul.take (roomM wd 0 ul))) 92)).fr, .int .i64 0, .bool true] = rowsV (c2 ++ [cv26]) (p2 ++ [pv27]) (acc ++ [(rowOf (wrapF (filA wd (ul.take (roomM wd 0 ul)))))]) := (rowsV_app (l := acc) cv26 pv27 (rowOf (wrapF (filA wd (ul.take (roomM wd 0 ul))))) ar.1 ar.2.1).symm
    rw [eR, show acc.length + 1 = (acc ++ [(rowOf (wrapF (filA wd (ul.take (roomM wd 0 ul)))))]).length by rw [List.length_append]; rfl] at H
    exact ⟨rfl, mm - 1, by omega, F, sv35, (ul.drop (roomM wd 0 ul)), (cl.drop (roomM wd 0 ul)), (c2 ++ [cv26]), (p2 ++ [pv27]), (acc ++ [(rowOf (wrapF (filA wd (ul.take (roomM wd 0 ul)))))]), v34, (by rw [List.length_drop]; omega), le0, hk38, (acl.drop (roomM wd 0 ul)), (goodU_drop gl (roomM wd 0 ul)), (noFd_drop nfl (roomM wd 0 ul)), (by rw [List.length_drop]; omega), ar2, (by rw [List.length_append, List.length_singleton, List.length_drop]; omega), (by rw [hT, lw_go h4 gl hnl, List.append_assoc]; rfl), H, rfl, rfl, rfl, rfl, rfl⟩
   ·have hc21b := hc21
    have hc21 := of_decide_eq_false hc21
    refine W.exit _ ?_
    refine seqQ_exit ?_
    refine rndQ_exit ?_
    have hfull : roomM wd 0 ul = ul.length := by have := room_le wd 0 ul; omega
    have hfit := room_full hfull
    refine blkQ_here ?_
    refine W.seq (W.region ?_)
    iterate 4 refine RW.v ?_
    have eco44 : (filA wd ul).co = false := (filA_ok hfit (by omega)).2.2
    refine RW.cl ?_
    refine ((r_rowW (e := e) (mark := 0) h4 h5 gl nfl hfit (Nat.le_trans hll (by decide)) (fun h => absurd rfl h) hkl.slf acl H).mono ?_)
    clear H
    rintro _ _ ⟨F, cv39, pv40, le, hr43, hc41, hp42, H⟩
    rw [show rowK wd ul e 0 = (rowOf (endF (filA wd ul) e)) from if_pos rfl] at hr43 hc41 hp42
    subst hr43
    replace le0 := fun b y h => le b y (le0 b y h)
    replace acl := acl.le le
    replace hkl := hkl.le le
    replace ar := ar.le le
    refine RW.mkL H (x := .row ⟨[cv39, pv40, .int .i64 ((rowOf (endF (filA wd ul) e)).fr), .int .i64 0, .bool false], 39, false⟩) (fm := fun b => .slice (some ⟨b, 0, none⟩) 1 1) (by kernel_rfl) (by kernel_rfl) (by rcases slf_forms hc41 with rfl | ⟨_, rfl⟩ | ⟨_, _, _, _, _, rfl⟩ <;> rcases slf_forms hp42 with rfl | ⟨_, rfl⟩ | ⟨_, _, _, _, _, rfl⟩ <;> kernel_rfl) (by kernel_rfl) ?_
    clear H; intro _ b45 _ H
    refine RW.appLB H 1 0 (n := 1) (e2 := 39) (by kernel_rfl) (by kernel_rfl) rfl rfl rfl rfl rfl rfl rfl (.inl rfl) rfl (by kernel_rfl) (by kernel_rfl) (by kernel_rfl) (by decide) (by decide) rfl (by rcases slf_forms hc41 with rfl | ⟨_, rfl⟩ | ⟨_, _, _, _, _, rfl⟩ <;> rcases slf_forms hp42 with rfl | ⟨_, rfl⟩ | ⟨_, _, _, _, _, rfl⟩ <;> rfl) (by omega) (by kernel_rfl) ?_
    clear H; intro _ v46 H
    dsimp only [setL, delL] at H
    refine RW.v ?_
    refine RW.nil ?_
    refine W.ret ?_
    refine endG (by rfl) (by exact resL_tmp rfl) ?_
    have eL : laidR wd wrap e us = acc ++ [(rowOf (endF (filA wd ul) e))] := by unfold laidR; rw [hw, if_pos rfl, hT, lw_end hfull]
    have eR : rowsV (c2 ++ [cv39]) (p2 ++ [pv40]) (acc ++ [(rowOf (endF (filA wd ul) e))]) = rowsV c2 p2 acc ++ [cv39, pv40, .int .i64 (rowOf (endF (filA wd ul) e)).fr, .int .i64 0, .bool false] := by rw [rowsV_app (l := acc) cv39 pv40 (rowOf (endF (filA wd ul) e)) ar.1 ar.2.1]; show _ ++ [cv39, pv40, .int .i64 (rowOf (endF (filA wd ul) e)).fr, .int .i64 0, .bool (filA wd _).co] = _; rw [eco44]
    rw [eL]
    obtain ⟨F', le2, hq, H⟩ := H.freezeSl 0 rfl
    dsimp only [setL, delL] at H
    have ar2 := (ar.app2 (r := (rowOf (endF (filA wd ul) e))) hc41 hp42).le le2
    exact ⟨F', c2 ++ [cv39], p2 ++ [pv40], fun b y h => le2 b y (le0 b y h), by rw [eR, List.length_append, List.length_singleton]; exact hq, ar2, H⟩
end
end Go.Proofs.YtmmapljeeccdnaaDoor
namespace Go.Proofs.YtmmapljeeccdnaaDoor
set_option maxRecDepth 100000
open Go.Lib Go.RowKit
def posK (q : Prt) (k : Nat) : Int := if q.k = 0 then q.p + ((k : Nat) : Int) else q.p
theorem posK_zero (q : Prt) : posK q 0 = q.p := by
 unfold posK
 split
 ·exact Int.add_zero _
 ·rfl
theorem chars_step {q : Prt} {T : List Int} {k : Nat} (h : k < T.length) : charsP q (posK q k) (T.drop k) = (T.getD k 0, posK q k, q) :: charsP q (posK q (k + 1)) (T.drop (k + 1)) := by
 have e : (if q.k = 0 then posK q k + 1 else posK q k) = posK q (k + 1) := by
  unfold posK
  by_cases h0 : q.k = 0
  ·rw [if_pos h0, if_pos h0, if_pos h0]; omega
  ·rw [if_neg h0, if_neg h0, if_neg h0]
 have e2 : T.getD k 0 = T.getD k default := rfl
 rw [e2, ← e, drop_get h]
 rfl
theorem unit_bd {tab col : Nat} {c : Int} {q : Prt} (h : tab ≤ 64) : unitN tab col c q ≤ 64 ∧ unitN tab col c q * (unitX c q).length ≤ 64 := by
 unfold unitN unitX
 by_cases h1 : c = 10
 ·rw [if_pos h1, if_pos h1]; exact ⟨by omega, by simp⟩
 ·rw [if_neg h1, if_neg h1]
  by_cases h2 : c = 9
  ·rw [if_pos h2, if_pos h2]; exact ⟨by omega, by simp; omega⟩
  ·rw [if_neg h2, if_neg h2]
   have := cellsM_len c q
   split
   ·exact ⟨by omega, by omega⟩
   ·exact ⟨by omega, by omega⟩
theorem colN_eq {tab col : Nat} {c : Int} {q : Prt} : (c ≠ 10 → colN tab col c q = col + unitN tab col c q * (unitX c q).length) ∧ (c = 10 → unitN tab col c q = 1 ∧ colN tab col c q = 0) := by
 refine ⟨fun h => ?_, fun h => ?_⟩
 ·unfold colN
  rw [if_neg h]
 ·subst h
  exact ⟨rfl, rfl⟩
theorem colN_le {tab col : Nat} {c : Int} {q : Prt} (h : tab ≤ 64) : colN tab col c q ≤ col + 64 := by
 have := (unit_bd (tab := tab) (col := col) (c := c) (q := q) h).2
 unfold colN
 split <;> omega
theorem col_end {tab col n j cc : Nat} {c : Int} {q : Prt} {XS : List Cel} {fd : Bool} (hfd : fd = decide (c = 10)) (hc : (c ≠ 10 → colN tab col c q = col + n * XS.length) ∧ (c = 10 → n = 1 ∧ colN tab col c q = 0)) (hj : j = n) (hcc : fd = false → cc + 0 * XS.length = col + n * XS.length) (hcf : fd = true → 0 < j → cc = 0) : cc = colN tab col c q := by
 by_cases h : c = 10
 ·have := hc.2 h
  rw [hcf (by rw [hfd, decide_eq_true h]) (by omega), this.2]
 ·have := hcc (by rw [hfd, decide_eq_false h])
  rw [hc.1 h, ← this, Nat.zero_mul, Nat.add_zero]
theorem unitX_pos {tab col : Nat} {c : Int} {q : Prt} (h : c ≠ 10) (hn : 1 ≤ unitN tab col c q) : 1 ≤ (unitX c q).length := by
 unfold unitN at hn
 unfold unitX
 rw [if_neg h] at hn ⊢
 by_cases h9 : c = 9
 ·rw [if_pos h9]; exact Nat.le_refl _
 ·rw [if_neg h9] at hn ⊢
  by_cases h0 : cellsM c q = []
  ·rw [if_pos h0] at hn; omega
  ·exact List.length_pos_iff.2 h0
theorem getD_rep {α : Type} {n j : Nat} {x d : α} (h : j < n) : (List.replicate n x).getD j d = x := by
 rw [List.getD_eq_getElem?_getD, List.getElem?_replicate, if_pos h]
 rfl
theorem unV_rep {cs : List Value} {n j : Nat} {XS : List Cel} {ps : Int} {fd : Bool} (h1 : cs.length = (List.replicate n (⟨XS, ps, fd⟩ : Un)).length) (h : j < n) : ((unV cs (List.replicate n ⟨XS, ps, fd⟩)).drop (((j : Nat) : Int).toNat * 3)).take 3 = [cs.getD j undef, .int .i64 ps, .bool fd] := by
 have := unV_ati h1 (j := j) (by rw [List.length_replicate]; exact h)
 rw [getD_rep h] at this
 exact this
theorem repU {F : Nat → Option Blk2} {cs : List Value} {n j : Nat} {XS : List Cel} {ps : Int} {fd : Bool} (a : AllU F cs (List.replicate n ⟨XS, ps, fd⟩)) (h : j < n) : SlF F 6 (cs.getD j undef) XS.length (cC XS) := by
 have := a.2 j (by rw [List.length_replicate]; exact h)
 rw [getD_rep h] at this
 exact this
theorem goodU_snoc {l : List Un} {u : Un} (g : GoodU l) (h1 : u.X.length ≤ 2) (h2 : u.fd = false → 1 ≤ u.X.length) : GoodU (l ++ [u]) := fun x h => by
 rcases List.mem_append.1 h with h | h
 ·exact g x h
 ·rw [List.mem_singleton.1 h]; exact ⟨h1, h2⟩
theorem noFd_snoc {l : List Un} {u : Un} (g : NoFd l) (h1 : u.fd = false) : NoFd (l ++ [u]) := fun x h => by
 rcases List.mem_append.1 h with h | h
 ·exact g x h
 ·rw [List.mem_singleton.1 h]; exact h1
theorem lw_len {wd : Nat} {e : Int} (h4 : 4 ≤ wd) : ∀ {n : Nat} {us : List Un}, GoodU us → (lw wd e n us).length ≤ us.length + 1
 | 0, us, _ => Nat.zero_le _
 | n + 1, us, g => by
  unfold lw
  split
  ·exact Nat.succ_le_succ (Nat.zero_le _)
  ·rename_i k
   have hne : us ≠ [] := fun e => k (by subst e; rfl)
   have h1 := room_pos h4 g hne
   have h2 := List.length_pos_iff.2 hne
   have h3 := lw_len (e := e) h4 (n := n) (us := us.drop (roomM wd 0 us)) (goodU_drop g _)
   rw [List.length_drop] at h3
   rw [List.length_cons]
   omega
theorem laidR_len {wd : Nat} {e : Int} {wrap : Bool} {us : List Un} (h4 : 4 ≤ wd) (g : GoodU us) : (laidR wd wrap e us).length ≤ us.length + 1 := by
 unfold laidR
 split
 ·exact lw_len h4 g
 ·split
  ·exact Nat.succ_le_succ (Nat.zero_le _)
  ·exact Nat.succ_le_succ (Nat.zero_le _)
section
variable {wd lim : Nat} {wrap fd : Bool} {X : List Cel} {ps : Int} {l : List Un} {out : List RowV} {now : List Un}
theorem runR_feed (h : fd = true) : runR wd lim wrap (⟨X, ps, fd⟩ :: l) ⟨out, now⟩ = runR wd lim wrap l ⟨out ++ laidR wd wrap ps now, []⟩ := by
 subst h
 rfl
theorem runR_put (h : fd = false) (k : now.length < lim) : runR wd lim wrap (⟨X, ps, fd⟩ :: l) ⟨out, now⟩ = runR wd lim wrap l ⟨out, now ++ [⟨X, ps, fd⟩]⟩ := by
 subst h
 have e : uR wd lim wrap ⟨out, now⟩ ⟨X, ps, false⟩ = ⟨out, now ++ [⟨X, ps, false⟩]⟩ := (if_neg Bool.false_ne_true).trans (if_pos k)
 exact congrArg (runR wd lim wrap l) e
theorem runR_full (h : fd = false) (k : ¬ now.length < lim) : runR wd lim wrap (⟨X, ps, fd⟩ :: l) ⟨out, now⟩ = runR wd lim wrap l ⟨out, now⟩ := by
 subst h
 have e : uR wd lim wrap ⟨out, now⟩ ⟨X, ps, false⟩ = ⟨out, now⟩ := (if_neg Bool.false_ne_true).trans (if_neg k)
 exact congrArg (runR wd lim wrap l) e
end
theorem rowsV_ones : ∀ {cs ps : List Value} {l : List RowV} {F : Nat → Option Blk2}, AllRow F cs ps l → (rowsV cs ps l).all (·.oneCell') = true
 | [], [], [], _, _ => rfl
 | c :: cs, p :: ps, r :: l, F, a => by
  have h0 := a.2.2 0 (Nat.succ_pos _)
  have a2 : AllRow F cs ps l := ⟨by simpa using a.1, by simpa using a.2.1, fun j hj => a.2.2 (j + 1) (Nat.succ_lt_succ hj)⟩
  have h1 := rowsV_ones a2
  have h2 := slf_all h0.1
  have h3 := slf_all h0.2
  simp only [List.all_cons, List.all_nil, Bool.and_true] at h2 h3
  show (c.oneCell' && (p.oneCell' && (true && (true && (true && (rowsV cs ps l).all (·.oneCell')))))) = true
  rw [h1]
  simp only [Bool.and_true]
  exact Bool.and_eq_true_iff.2 ⟨h2, h3⟩
 | [], _ :: _, l, _, a => by have h1 := a.1; have h2 := a.2.1; cases l <;> simp at h1 h2
 | _ :: _, [], l, _, a => by have h1 := a.1; have h2 := a.2.1; cases l <;> simp at h1 h2
 | [], [], _ :: _, _, a => by have h1 := a.1; simp at h1
 | _ :: _, _ :: _, [], _, a => by have h1 := a.1; simp at h1
def mixR (to_ : Int) (out : List RowV) (i : Nat) : List RowV := (tosX out to_).take i ++ out.drop i
section
variable {to_ : Int} {out : List RowV} {i : Nat}
theorem mixR_len (h : i < out.length) : (mixR to_ out i).length = out.length := by
 unfold mixR
 rw [List.length_append, List.length_take, List.length_drop, tosX_len]
 omega
theorem mixR_all : mixR to_ out out.length = tosX out to_ := by
 unfold mixR
 rw [List.drop_length, List.append_nil, List.take_of_length_le (by rw [tosX_len]; exact Nat.le_refl _)]
theorem mixR_at (h : i < out.length) {j : Nat} (hj : i ≤ j) : (mixR to_ out i).getD j default = out.getD j default := by
 unfold mixR
 have hl : ((tosX out to_).take i).length = i := by rw [List.length_take, tosX_len]; omega
 rw [getD_right (by omega), hl, getD_drop, show i + (j - i) = j by omega]
theorem tosX_at : ∀ {R : List RowV} {x : Int} {i : Nat}, i < R.length → (tosX R x).getD i default = rto (R.getD i default) (if i + 1 < R.length then (R.getD (i + 1) default).fr else x)
 | [], _, _, h => absurd h (Nat.not_lt_zero _)
 | [r], x, 0, _ => rfl
 | [r], x, i + 1, h => by simp at h
 | r :: q :: l, x, 0, _ => by
  rw [if_pos (by simp)]
  rfl
 | r :: q :: l, x, i + 1, h => by
  have e := tosX_at (R := q :: l) (x := x) (i := i) (by simpa using h)
  show (tosX (q :: l) x).getD i default = rto ((q :: l).getD i default) (if i + 1 + 1 < (r :: q :: l).length then ((q :: l).getD (i + 1) default).fr else x)
  rw [e]
  congr 1
  simp only [List.length_cons]
  by_cases h2 : i + 1 < l.length + 1
  ·rw [if_pos h2, if_pos (by omega)]
  ·rw [if_neg h2, if_neg (by omega)]
theorem mixR_set (h : i < out.length) (r : RowV) (hr : (tosX out to_).getD i default = r) : (mixR to_ out i).set i r = mixR to_ out (i + 1) := by
 have hl : ((tosX out to_).take i).length = i := by rw [List.length_take, tosX_len]; omega
 unfold mixR
 rw [List.set_append_right i r (by omega), hl, Nat.sub_self, drop_get h, List.set_cons_zero, takeR (l := tosX out to_) (by rw [tosX_len]; exact h), hr, List.append_assoc]
 rfl
theorem mixR_last (h : i < out.length) (k : ¬ i + 1 < out.length) : (mixR to_ out i).set i (rto ((mixR to_ out i).getD i default) to_) = mixR to_ out (i + 1) := by
 refine mixR_set h _ ?_
 rw [tosX_at h, if_neg k, mixR_at h (Nat.le_refl _)]
theorem mixR_go (h : i < out.length) (k : i + 1 < out.length) : ((mixR to_ out i).set i (rto ((mixR to_ out i).getD i default) to_)).set i (rto (((mixR to_ out i).set i (rto ((mixR to_ out i).getD i default) to_)).getD i default) (((mixR to_ out i).set i (rto ((mixR to_ out i).getD i default) to_)).getD (i + 1) default).fr) = mixR to_ out (i + 1) := by
 have hl := mixR_len (to_ := to_) h
 have e1 : ((mixR to_ out i).set i (rto ((mixR to_ out i).getD i default) to_)).getD i default = rto ((mixR to_ out i).getD i default) to_ := by
  rw [List.getD_eq_getElem?_getD, List.getElem?_set_self (by omega)]
  rfl
 have e2 : ((mixR to_ out i).set i (rto ((mixR to_ out i).getD i default) to_)).getD (i + 1) default = out.getD (i + 1) default := by
  rw [List.getD_eq_getElem?_getD, List.getElem?_set_ne (by omega), ← List.getD_eq_getElem?_getD, mixR_at h (by omega)]
 rw [e1, e2, List.set_set]
 refine mixR_set h _ ?_
 rw [tosX_at h, if_pos k, mixR_at h (Nat.le_refl _)]
 rfl
end
theorem rowsV_set : ∀ {cs ps : List Value} {R : List RowV} {i : Nat} {v : Int}, cs.length = R.length → ps.length = R.length → i < R.length → overL (rowsV cs ps R) (i * 5 + 3) [.int .i64 v] = rowsV cs ps (R.set i (rto (R.getD i default) v))
 | [], _, [], _, _, _, _, h => absurd h (Nat.not_lt_zero _)
 | c :: cs, p :: ps, r :: R, 0, v, _, _, _ => rfl
 | c :: cs, p :: ps, r :: R, i + 1, v, h1, h2, h => by
  have e := rowsV_set (cs := cs) (ps := ps) (R := R) (i := i) (v := v) (by simpa using h1) (by simpa using h2) (by simpa using h)
  have e2 : (i + 1) * 5 + 3 = 5 + (i * 5 + 3) := by omega
  rw [e2]
  show overL ([c, p, .int .i64 r.fr, .int .i64 r.to, .bool r.co] ++ rowsV cs ps R) _ _ = [c, p, .int .i64 r.fr, .int .i64 r.to, .bool r.co] ++ rowsV cs ps (R.set i (rto (R.getD i default) v))
  rw [← e]
  exact over_left [c, p, .int .i64 r.fr, .int .i64 r.to, .bool r.co] _ _ _
 | [], _, _ :: _, _, _, h1, _, _ => by simp at h1
 | _ :: _, [], _, _, _, h1, h2, h => absurd h (by rw [← h2]; exact Nat.not_lt_zero _)
 | _ :: _, _ :: _, [], _, _, h1, _, h => by simp at h
theorem rowsV_ati2 {cs ps : List Value} {l : List RowV} {j : Nat} {i : Int} (hi : i = ((j : Nat) : Int)) (h1 : cs.length = l.length) (h2 : ps.length = l.length) (h : j < l.length) : ((rowsV cs ps l).drop (i.toNat * 5)).take 5 = [cs.getD j undef, ps.getD j undef, .int .i64 (l.getD j default).fr, .int .i64 (l.getD j default).to, .bool (l.getD j default).co] := by
 subst hi
 exact rowsV_ati h1 h2 h
section
variable {G : Nat} {A : Abs} {σ : Mem} {F : Nat → Option Blk2} {L : List Ent}
set_option maxHeartbeats 64000000 in
theorem r_rows_go {l : List Prt} {v1 : Value} {fr to_ : Int} {wd tab most : Nat} {wrap : Bool} {T : List RowV} (h4 : 4 ≤ wd) (h5 : wd ≤ 1000) (ht : 1 ≤ tab) (ht2 : tab ≤ 64) (hm0 : most ≤ 10000) (h1 : SlF F 9 v1 l.length (pC l)) (hl : l.length ≤ 1000) (hsm : ∀ x ∈ l, x.s.length ≤ 1000) (hch : (charsM l).length ≤ 7000) (hck : checkM l fr to_ = 0) (hT : T = finR to_ wd wrap (runR wd (limM wd most wrap) wrap (unitsM tab 0 (charsM l)) ⟨[], []⟩)) (H : Lies G A F σ L) :
  WC G Tryd.prog 14 #[v1, .int .i64 fr, .int .i64 to_, .int .i64 ((wd : Nat) : Int), .int .i64 ((tab : Nat) : Int), .bool wrap, .int .i64 ((most : Nat) : Int)] σ fun v σ' => ∃ F' u c2 p2, Le F F' ∧ v = .tuple #[u, .int .i64 0] ∧ SlF F' 5 u ((tosX T to_).take most).length (rowsV c2 p2 ((tosX T to_).take most)) ∧ AllRow F' c2 p2 ((tosX T to_).take most) ∧ Lies G A F' σ' L := by
 obtain ⟨F0, hF⟩ : ∃ F0, F0 = F := ⟨_, rfl⟩
 have le0 : Le F0 F := fun b y h => hF ▸ h
 rw [← hF] at h1 ⊢
 skip
 refine WC.enter (fn := Tryd.f14) Tryd.func14 rfl ?_
 refine W.rg [(0, v1), (1, .int .i64 fr), (2, .int .i64 to_), (3, .int .i64 ((wd : Nat) : Int)), (4, .int .i64 ((tab : Nat) : Int)), (5, .bool wrap), (6, .int .i64 ((most : Nat) : Int))] fun TA => ?_
 refine W.seq (W.region ?_)
 iterate 2 refine RW.v ?_
 refine RW.nil ?_
 refine W.rg [(0, v1), (1, .int .i64 fr), (2, .int .i64 to_), (3, .int .i64 ((wd : Nat) : Int)), (4, .int .i64 ((tab : Nat) : Int)), (5, .bool wrap), (6, .int .i64 ((most : Nat) : Int))] fun TA => ?_
 refine W.seq ?_
 refine W.seq (W.region ?_)
 iterate 3 refine RW.v ?_
 refine RW.cl ?_
 refine ((r_check (l := l) (fr := fr) (to_ := to_) (h1.le le0) (by omega) (fun x hx => Nat.le_trans (hsm x hx) (by decide)) H).mono ?_)
 clear H
 rw [hck]
 rintro _ _ ⟨rfl, H⟩
 refine RW.v ?_
 refine RW.nil ?_
 refine W.rg [(0, v1), (2, .int .i64 to_), (3, .int .i64 ((wd : Nat) : Int)), (4, .int .i64 ((tab : Nat) : Int)), (5, .bool wrap), (6, .int .i64 ((most : Nat) : Int)), (16, .int .i64 0)] fun TA => ?_
 refine W.seq (W.region ?_)
 iterate 2 refine RW.v ?_
 refine RW.nil ?_
 refine W.c0 ?_
 refine W.skip ?_
 refine W.seq ?_
 refine W.seq (W.region ?_)
 refine RW.v ?_
 refine RW.valE (v' := .bool false) (by kernel_rfl) (by kernel_rfl) rfl (congrArg Value.bool (decide_eq_false (by omega))) (by kernel_rfl) ?_
 refine RW.v ?_
 refine RW.w ?_
 refine RW.valE (v' := .bool false) (by rfl) (by kernel_rfl) rfl (congrArg Value.bool (decide_eq_false (by omega))) (by kernel_rfl) ?_
 iterate 2 refine RW.v ?_
 refine RW.w ?_
 refine RW.valE (v' := .bool false) (by rfl) (by kernel_rfl) rfl (congrArg Value.bool (decide_eq_false (by omega))) (by kernel_rfl) ?_
 iterate 2 refine RW.v ?_
 refine RW.w ?_
 refine RW.valE (v' := .bool false) (by rfl) (by kernel_rfl) rfl (congrArg Value.bool (decide_eq_false (by omega))) (by kernel_rfl) ?_
 iterate 2 refine RW.v ?_
 refine RW.w ?_
 refine RW.valE (v' := .bool false) (by rfl) (by kernel_rfl) rfl (congrArg Value.bool (decide_eq_false (by omega))) (by kernel_rfl) ?_
 iterate 2 refine RW.v ?_
 refine RW.w ?_
 refine RW.valE (v' := .bool false) (by rfl) (by kernel_rfl) rfl (congrArg Value.bool (decide_eq_false (by omega))) (by kernel_rfl) ?_
 refine RW.v ?_
 refine RW.nil ?_
 refine W.c0 ?_
 refine W.skip ?_
 refine W.seq (W.region ?_)
 refine RW.v ?_
 refine RW.nil ?_
 refine W.rg [(0, v1), (2, .int .i64 to_), (3, .int .i64 ((wd : Nat) : Int)), (4, .int .i64 ((tab : Nat) : Int)), (5, .bool wrap), (6, .int .i64 ((most : Nat) : Int)), (17, .slice none 0 0)] fun TA => ?_
 refine W.seq (W.region ?_)
 refine RW.v ?_
 refine RW.nil ?_
 refine W.rg [(0, v1), (2, .int .i64 to_), (3, .int .i64 ((wd : Nat) : Int)), (4, .int .i64 ((tab : Nat) : Int)), (5, .bool wrap), (6, .int .i64 ((most : Nat) : Int)), (17, .slice none 0 0), (18, .slice none 0 0)] fun TA => ?_
 refine W.seq (W.region ?_)
 refine RW.v ?_
 refine RW.valE (v' := .int .i64 ((wd + 1 : Nat) : Int)) (by kernel_rfl) (by kernel_rfl) rfl (congrArg (Value.int .i64) ((wrap_in (by omega) (by omega)).trans (by omega))) (by kernel_rfl) ?_
 iterate 2 refine RW.v ?_
 refine RW.nil ?_
 refine W.rg [(0, v1), (2, .int .i64 to_), (3, .int .i64 ((wd : Nat) : Int)), (4, .int .i64 ((tab : Nat) : Int)), (5, .bool wrap), (6, .int .i64 ((most : Nat) : Int)), (17, .slice none 0 0), (18, .slice none 0 0), (19, .int .i64 0), (20, .int .i64 (((wd + 1) : Nat) : Int))] fun TA => ?_
 refine W.join (fun ta σ => ∃ (lim : Nat), (lim = limM wd most wrap) ∧ (lim ≤ 10001 * 1000) ∧ Lies G A F σ ((L)) ∧ ta 0 = v1 ∧ ta 2 = .int .i64 to_ ∧ ta 3 = .int .i64 ((wd : Nat) : Int) ∧ ta 4 = .int .i64 ((tab : Nat) : Int) ∧ ta 5 = .bool wrap ∧ ta 6 = .int .i64 ((most : Nat) : Int) ∧ ta 17 = .slice none 0 0 ∧ ta 18 = .slice none 0 0 ∧ ta 19 = .int .i64 0 ∧ ta 20 = .int .i64 ((lim : Nat) : Int)) ?_ ?_
 ·refine W.seq (W.region ?_)
  refine RW.v ?_
  refine RW.nil ?_
  refine W.rg [(0, v1), (2, .int .i64 to_), (3, .int .i64 ((wd : Nat) : Int)), (4, .int .i64 ((tab : Nat) : Int)), (5, .bool wrap), (6, .int .i64 ((most : Nat) : Int)), (17, .slice none 0 0), (18, .slice none 0 0), (19, .int .i64 0), (20, .int .i64 (((wd + 1) : Nat) : Int)), (60, .bool wrap)] fun TA => ?_
  refine W.cond rfl (fun hc1 => ?_) (fun hc1 => ?_)
  ·have hc1b := hc1
   have hc1w : wrap = true := hc1b
   refine W.region ?_
   refine RW.v ?_
   refine RW.valE (v' := .int .i64 ((most + 1 : Nat) : Int)) (by kernel_rfl) (by kernel_rfl) rfl (congrArg (Value.int .i64) ((wrap_in (by omega) (by omega)).trans (by omega))) (by kernel_rfl) ?_
   refine RW.v ?_
   have hml : (most + 1) * wd ≤ 10001 * 1000 := Nat.mul_le_mul (by omega) (by omega)
   refine RW.valE (v' := .int .i64 (((most + 1) * wd : Nat) : Int)) (by kernel_rfl) (by kernel_rfl) rfl (congrArg (Value.int .i64) ((congrArg _ (Int.natCast_mul _ _).symm).trans (wrap_in (by omega) (by omega)))) (by kernel_rfl) ?_
   refine RW.v ?_
   refine RW.nil ?_
   exact ⟨rfl, rfl, ((most + 1) * wd), (by unfold limM; rw [if_pos hc1w]), (Nat.mul_le_mul (show most + 1 ≤ 10001 by omega) (show wd ≤ 1000 by omega)), H, rfl, rfl, rfl, rfl, rfl, rfl, rfl, rfl, rfl, rfl⟩
  ·have hc1b := hc1
   have hc1w : wrap = false := hc1b
   refine W.skip ?_
   exact ⟨rfl, rfl, (wd + 1), (by unfold limM; rw [if_neg (by rw [hc1w]; decide)]), (by omega), H, rfl, rfl, rfl, rfl, rfl, rfl, rfl, rfl, rfl, rfl⟩
 clear H
 rintro ta _ ⟨lim, hlim, hlb, H, e0, e2, e3, e4, e5, e6, e17, e18, e19, e20⟩
 refine W.rst [(0, v1), (2, .int .i64 to_), (3, .int .i64 ((wd : Nat) : Int)), (4, .int .i64 ((tab : Nat) : Int)), (5, .bool wrap), (6, .int .i64 ((most : Nat) : Int)), (17, .slice none 0 0), (18, .slice none 0 0), (19, .int .i64 0), (20, .int .i64 ((lim : Nat) : Int))] ⟨e0, e2, e3, e4, e5, e6, e17, e18, e19, e20, trivial⟩ fun TA => ?_
 clear e0 e2 e3 e4 e5 e6 e17 e18 e19 e20
 refine W.join (fun ta σ => ∃ (F : Nat → Option Blk2) (un : Value) (cn : List Value) (now : List Un) (u : Value) (c2 : List Value) (p2 : List Value) (out : List RowV), (Le F0 F) ∧ (AllU F cn now) ∧ (GoodU now) ∧ (NoFd now) ∧ (AllRow F c2 p2 out) ∧ (now.length + out.length ≤ 500000) ∧ (T = finR to_ wd wrap ⟨out, now⟩ ∨ (most < out.length ∧ T.take (most + 1) = out.take (most + 1))) ∧ Lies G A F σ (.sl 73 3 un now.length (unV cn now) :: .sl 39 5 u out.length (rowsV c2 p2 out) :: (L)) ∧ ta 2 = .int .i64 to_ ∧ ta 3 = .int .i64 ((wd : Nat) : Int) ∧ ta 5 = .bool wrap ∧ ta 6 = .int .i64 ((most : Nat) : Int) ∧ ta 17 = u ∧ ta 18 = un) ?_ ?_
 ·refine W.seq (W.region ?_)
  refine RW.v ?_
  refine RW.nil ?_
  refine W.rg [(0, v1), (2, .int .i64 to_), (3, .int .i64 ((wd : Nat) : Int)), (4, .int .i64 ((tab : Nat) : Int)), (5, .bool wrap), (6, .int .i64 ((most : Nat) : Int)), (17, .slice none 0 0), (18, .slice none 0 0), (19, .int .i64 0), (20, .int .i64 ((lim : Nat) : Int)), (21, .int .i64 0)] fun TA => ?_
  refine W.block ?_
  replace H := H.nilSl 39 5
  replace H := H.nilSl 73 3
  refine W.loop (fun mm ta σ => ∃ (i : Nat) (F : Nat → Option Blk2) (un : Value) (cn : List Value) (now : List Un) (u : Value) (c2 : List Value) (p2 : List Value) (out : List RowV) (col : Nat), (mm + i = l.length) ∧ (Le F0 F) ∧ (AllU F cn now) ∧ (GoodU now) ∧ (NoFd now) ∧ (AllRow F c2 p2 out) ∧ (now.length + out.length + 64 * (charsM (l.drop i)).length ≤ 500000) ∧ (col + 64 * (charsM (l.drop i)).length ≤ 1000000) ∧ (T = finR to_ wd wrap (runR wd lim wrap (unitsM tab col (charsM (l.drop i))) ⟨out, now⟩) ∨ (most < out.length ∧ T.take (most + 1) = out.take (most + 1))) ∧ Lies G A F σ (.sl 73 3 un now.length (unV cn now) :: .sl 39 5 u out.length (rowsV c2 p2 out) :: (L)) ∧ ta 0 = v1 ∧ ta 2 = .int .i64 to_ ∧ ta 3 = .int .i64 ((wd : Nat) : Int) ∧ ta 4 = .int .i64 ((tab : Nat) : Int) ∧ ta 5 = .bool wrap ∧ ta 6 = .int .i64 ((most : Nat) : Int) ∧ ta 17 = u ∧ ta 18 = un ∧ ta 19 = .int .i64 ((col : Nat) : Int) ∧ ta 20 = .int .i64 ((lim : Nat) : Int) ∧ ta 21 = .int .i64 ((i : Nat) : Int)) l.length ?_ ?_
  ·exact ⟨0, F, .slice none 0 0, [], [], .slice none 0 0, [], [], [], 0, (by omega), le0, AllU.nil, (fun _ h => by simp at h), (fun _ h => by simp at h), AllRow.nil, (by show 0 + 0 + 64 * (charsM l).length ≤ _; omega), (by show 0 + 64 * (charsM l).length ≤ _; omega), (.inl (by rw [hlim]; exact hT)), H, rfl, rfl, rfl, rfl, rfl, rfl, rfl, rfl, rfl, rfl, rfl⟩
  clear H
  rintro mm ta _ ⟨i, F, un, cn, now, u, c2, p2, out, col, hm, le0, acn, gn, nn, aro, hB, hcol, hT, H, e0, e2, e3, e4, e5, e6, e17, e18, e19, e20, e21⟩
  refine W.rst [(0, v1), (2, .int .i64 to_), (3, .int .i64 ((wd : Nat) : Int)), (4, .int .i64 ((tab : Nat) : Int)), (5, .bool wrap), (6, .int .i64 ((most : Nat) : Int)), (17, u), (18, un), (19, .int .i64 ((col : Nat) : Int)), (20, .int .i64 ((lim : Nat) : Int)), (21, .int .i64 ((i : Nat) : Int))] ⟨e0, e2, e3, e4, e5, e6, e17, e18, e19, e20, e21, trivial⟩ fun TA => ?_
  clear e0 e2 e3 e4 e5 e6 e17 e18 e19 e20 e21
  refine W.seq ?_
  refine W.seq (W.region ?_)
  iterate 2 refine RW.v ?_
  refine RW.len (by kernel_rfl) (by kernel_rfl) rfl rfl rfl rfl ((h1.le le0).len (e := 52) (by kernel_rfl)) (by kernel_rfl) ?_
  iterate 2 refine RW.v ?_
  refine RW.both _ _ rfl rfl rfl (fun hc2 => ?_) (fun hc2 => ?_)
  ·have hc2b := hc2
   have hc2 := of_decide_eq_true hc2
   have hil : i < l.length := by omega
   refine RW.w ?_
   refine RW.len (by rfl) (by kernel_rfl) rfl rfl rfl rfl ((H.sl 1 rfl).len (by kernel_rfl)) (by kernel_rfl) ?_
   iterate 2 refine RW.w ?_
   refine RW.v ?_
   refine RW.nil ?_
   refine W.rg [(0, v1), (2, .int .i64 to_), (3, .int .i64 ((wd : Nat) : Int)), (4, .int .i64 ((tab : Nat) : Int)), (5, .bool wrap), (6, .int .i64 ((most : Nat) : Int)), (17, u), (18, un), (19, .int .i64 ((col : Nat) : Int)), (20, .int .i64 ((lim : Nat) : Int)), (21, .int .i64 ((i : Nat) : Int)), (74, .bool (decide (((out.length : Nat) : Int) ≤ ((most : Nat) : Int))))] fun TA => ?_
   refine W.cond rfl (fun hc3 => ?_) (fun hc3 => ?_)
   ·have hc3b := hc3
    have hc3 := of_decide_eq_true hc3
    replace hT := hT.resolve_right (fun h => by omega)
    refine W.skip ?_
    refine W.seq ?_
    refine W.block ?_
    refine W.seq (W.region ?_)
    iterate 2 refine RW.v ?_
    refine RW.idxF (h1.le le0) (by kernel_rfl) (by kernel_rfl) rfl Tryd.underlying22 (by kernel_rfl) rfl rfl ⟨by omega, by omega⟩ (by kernel_rfl) ?_
    intro b4 q5 r6 hF7 hE8
    rw [pC_ati (l := l) (j := i) (by omega)] at hE8
    refine RW.v ?_
    refine RW.loads 1 (by kernel_rfl) (by kernel_rfl) rfl rfl (H.old _ _ hF7) (sub_take hE8 3 1 (by decide)) rfl (by kernel_rfl) ?_
    obtain ⟨TX, hTX⟩ : ∃ TX, TX = runes (l.getD i default).s := ⟨_, rfl⟩
    have hTl : TX.length ≤ 1000 := by have := runes_le (l.getD i default).s; have := hsm _ (get_mem hil); rw [hTX]; omega
    refine RW.cl ?_
    refine ((r_list ((check_all hck).2.2.2 _ (get_mem hil)).2.2.2 (Nat.le_trans (hsm _ (get_mem hil)) (by decide)) H).mono ?_)
    clear H
    rintro _ _ ⟨F, tv9, le, rfl, hv, H⟩
    rw [← hTX] at hv
    replace le0 := fun b y h => le b y (le0 b y h)
    replace acn := acn.le le
    replace aro := aro.le le
    obtain ⟨F1, hF1⟩ : ∃ F1, F1 = F := ⟨_, rfl⟩
    have le1 : Le F1 F := fun b y h => hF1 ▸ h
    rw [← hF1] at hv
    iterate 5 refine RW.v ?_
    refine RW.nil ?_
    refine W.rg [(0, v1), (2, .int .i64 to_), (3, .int .i64 ((wd : Nat) : Int)), (4, .int .i64 ((tab : Nat) : Int)), (5, .bool wrap), (6, .int .i64 ((most : Nat) : Int)), (17, u), (18, un), (19, .int .i64 ((col : Nat) : Int)), (20, .int .i64 ((lim : Nat) : Int)), (21, .int .i64 ((i : Nat) : Int)), (22, tv9)] fun TA => ?_
    refine W.seq (W.region ?_)
    refine RW.v ?_
    refine RW.nil ?_
    refine W.rg [(0, v1), (2, .int .i64 to_), (3, .int .i64 ((wd : Nat) : Int)), (4, .int .i64 ((tab : Nat) : Int)), (5, .bool wrap), (6, .int .i64 ((most : Nat) : Int)), (17, u), (18, un), (19, .int .i64 ((col : Nat) : Int)), (20, .int .i64 ((lim : Nat) : Int)), (21, .int .i64 ((i : Nat) : Int)), (22, tv9), (24, .int .i64 0)] fun TA => ?_
    refine W.block ?_
    have eC : charsM (l.drop i) = charsP (l.getD i default) (posK (l.getD i default) 0) (TX.drop 0) ++ charsM (l.drop (i + 1)) := by rw [charsM_at hil, hTX, List.drop_zero, posK_zero]
    rw [eC] at hB hcol hT
    refine W.loop (fun mm2 ta σ => ∃ (k : Nat) (F : Nat → Option Blk2) (un : Value) (cn : List Value) (now : List Un) (u : Value) (c2 : List Value) (p2 : List Value) (out : List RowV) (col : Nat), (mm2 + k = TX.length) ∧ (Le F0 F) ∧ (Le F1 F) ∧ (AllU F cn now) ∧ (GoodU now) ∧ (NoFd now) ∧ (AllRow F c2 p2 out) ∧ (now.length + out.length + 64 * (charsP (l.getD i default) (posK (l.getD i default) k) (TX.drop k) ++ charsM (l.drop (i + 1))).length ≤ 500000) ∧ (col + 64 * (charsP (l.getD i default) (posK (l.getD i default) k) (TX.drop k) ++ charsM (l.drop (i + 1))).length ≤ 1000000) ∧ (T = finR to_ wd wrap (runR wd lim wrap (unitsM tab col (charsP (l.getD i default) (posK (l.getD i default) k) (TX.drop k) ++ charsM (l.drop (i + 1)))) ⟨out, now⟩)) ∧ Lies G A F σ (.sl 73 3 un now.length (unV cn now) :: .sl 39 5 u out.length (rowsV c2 p2 out) :: (L)) ∧ ta 0 = v1 ∧ ta 2 = .int .i64 to_ ∧ ta 3 = .int .i64 ((wd : Nat) : Int) ∧ ta 4 = .int .i64 ((tab : Nat) : Int) ∧ ta 5 = .bool wrap ∧ ta 6 = .int .i64 ((most : Nat) : Int) ∧ ta 17 = u ∧ ta 18 = un ∧ ta 19 = .int .i64 ((col : Nat) : Int) ∧ ta 20 = .int .i64 ((lim : Nat) : Int) ∧ ta 21 = .int .i64 ((i : Nat) : Int) ∧ ta 22 = tv9 ∧ ta 24 = .int .i64 ((k : Nat) : Int)) TX.length ?_ ?_
    ·exact ⟨0, F, un, cn, now, u, c2, p2, out, col, (by omega), le0, le1, acn, gn, nn, aro, hB, hcol, hT, H, rfl, rfl, rfl, rfl, rfl, rfl, rfl, rfl, rfl, rfl, rfl, rfl, rfl⟩
    clear H
    rintro mm2 ta _ ⟨k, F, un, cn, now, u, c2, p2, out, col, hm2, le0, le1, acn, gn, nn, aro, hB, hcol, hT, H, e0, e2, e3, e4, e5, e6, e17, e18, e19, e20, e21, e22, e24⟩
    refine W.rst [(0, v1), (2, .int .i64 to_), (3, .int .i64 ((wd : Nat) : Int)), (4, .int .i64 ((tab : Nat) : Int)), (5, .bool wrap), (6, .int .i64 ((most : Nat) : Int)), (17, u), (18, un), (19, .int .i64 ((col : Nat) : Int)), (20, .int .i64 ((lim : Nat) : Int)), (21, .int .i64 ((i : Nat) : Int)), (22, tv9), (24, .int .i64 ((k : Nat) : Int))] ⟨e0, e2, e3, e4, e5, e6, e17, e18, e19, e20, e21, e22, e24, trivial⟩ fun TA => ?_
    clear e0 e2 e3 e4 e5 e6 e17 e18 e19 e20 e21 e22 e24
    refine W.seq ?_
    refine W.seq (W.region ?_)
    iterate 2 refine RW.v ?_
    refine RW.len (by kernel_rfl) (by kernel_rfl) rfl rfl rfl rfl ((hv.le le1).len (e := 3) (by kernel_rfl)) (by kernel_rfl) ?_
    iterate 2 refine RW.v ?_
    refine RW.both _ _ rfl rfl rfl (fun hc10 => ?_) (fun hc10 => ?_)
    ·have hc10b := hc10
     have hc10 := of_decide_eq_true hc10
     have hbd := check_bounds hck _ (get_mem hil)
     have hkl : k < TX.length := by omega
     rw [chars_step hkl, List.cons_append] at hB hcol hT
     rw [List.length_cons] at hB hcol
     refine RW.w ?_
     refine RW.len (by rfl) (by kernel_rfl) rfl rfl rfl rfl ((H.sl 1 rfl).len (by kernel_rfl)) (by kernel_rfl) ?_
     iterate 2 refine RW.w ?_
     refine RW.v ?_
     refine RW.nil ?_
     refine W.rg [(0, v1), (2, .int .i64 to_), (3, .int .i64 ((wd : Nat) : Int)), (4, .int .i64 ((tab : Nat) : Int)), (5, .bool wrap), (6, .int .i64 ((most : Nat) : Int)), (17, u), (18, un), (19, .int .i64 ((col : Nat) : Int)), (20, .int .i64 ((lim : Nat) : Int)), (21, .int .i64 ((i : Nat) : Int)), (22, tv9), (24, .int .i64 ((k : Nat) : Int)), (95, .bool (decide (((out.length : Nat) : Int) ≤ ((most : Nat) : Int))))] fun TA => ?_
     refine W.cond rfl (fun hc11 => ?_) (fun hc11 => ?_)
     ·have hc11b := hc11
      have hc11 := of_decide_eq_true hc11
      refine W.skip ?_
      refine W.seq ?_
      refine W.block ?_
      refine W.seq (W.region ?_)
      iterate 2 refine RW.v ?_
      refine RW.idxF (h1.le le0) (by kernel_rfl) (by kernel_rfl) rfl Tryd.underlying22 (by kernel_rfl) rfl rfl ⟨by omega, by omega⟩ (by kernel_rfl) ?_
      intro b12 q13 r14 hF15 hE16
      rw [pC_ati (l := l) (j := i) (by omega)] at hE16
      refine RW.v ?_
      refine RW.loads 1 (by kernel_rfl) (by kernel_rfl) rfl rfl (H.old _ _ hF15) (sub_take hE16 1 1 (by decide)) rfl (by kernel_rfl) ?_
      refine RW.v ?_
      refine RW.nil ?_
      refine W.rg [(0, v1), (2, .int .i64 to_), (3, .int .i64 ((wd : Nat) : Int)), (4, .int .i64 ((tab : Nat) : Int)), (5, .bool wrap), (6, .int .i64 ((most : Nat) : Int)), (17, u), (18, un), (19, .int .i64 ((col : Nat) : Int)), (20, .int .i64 ((lim : Nat) : Int)), (21, .int .i64 ((i : Nat) : Int)), (22, tv9), (24, .int .i64 ((k : Nat) : Int)), (25, .int .i64 ((l.getD i default).p))] fun TA => ?_
      refine W.join (fun ta σ => ∃ (ps : Int), (ps = posK (l.getD i default) k) ∧ Lies G A F σ (.sl 73 3 un now.length (unV cn now) :: .sl 39 5 u out.length (rowsV c2 p2 out) :: (L)) ∧ ta 0 = v1 ∧ ta 2 = .int .i64 to_ ∧ ta 3 = .int .i64 ((wd : Nat) : Int) ∧ ta 4 = .int .i64 ((tab : Nat) : Int) ∧ ta 5 = .bool wrap ∧ ta 6 = .int .i64 ((most : Nat) : Int) ∧ ta 17 = u ∧ ta 18 = un ∧ ta 19 = .int .i64 ((col : Nat) : Int) ∧ ta 20 = .int .i64 ((lim : Nat) : Int) ∧ ta 21 = .int .i64 ((i : Nat) : Int) ∧ ta 22 = tv9 ∧ ta 24 = .int .i64 ((k : Nat) : Int) ∧ ta 25 = .int .i64 ps) ?_ ?_
      ·refine W.seq (W.region ?_)
       iterate 2 refine RW.v ?_
       refine RW.idxF (h1.le le0) (by kernel_rfl) (by kernel_rfl) rfl Tryd.underlying22 (by kernel_rfl) rfl rfl ⟨by omega, by omega⟩ (by kernel_rfl) ?_
       intro b17 q18 r19 hF20 hE21
       rw [pC_ati (l := l) (j := i) (by omega)] at hE21
       refine RW.v ?_
       refine RW.loads 1 (by kernel_rfl) (by kernel_rfl) rfl rfl (H.old _ _ hF20) (sub_take hE21 0 1 (by decide)) rfl (by kernel_rfl) ?_
       refine RW.v ?_
       refine RW.nil ?_
       refine W.rg [(0, v1), (2, .int .i64 to_), (3, .int .i64 ((wd : Nat) : Int)), (4, .int .i64 ((tab : Nat) : Int)), (5, .bool wrap), (6, .int .i64 ((most : Nat) : Int)), (17, u), (18, un), (19, .int .i64 ((col : Nat) : Int)), (20, .int .i64 ((lim : Nat) : Int)), (21, .int .i64 ((i : Nat) : Int)), (22, tv9), (24, .int .i64 ((k : Nat) : Int)), (25, .int .i64 ((l.getD i default).p)), (108, .bool (((l.getD i default).k) == 0))] fun TA => ?_
       refine W.cond rfl (fun hc22 => ?_) (fun hc22 => ?_)
       ·have hc22b := hc22
        have hc22 := eq_of_beq hc22
        refine W.region ?_
        iterate 2 refine RW.v ?_
        refine RW.valE (v' := .int .i64 (((l.getD i default).p) + ((k : Nat) : Int))) (by kernel_rfl) (by kernel_rfl) rfl (congrArg (Value.int .i64) (wrap_in (by omega) (by omega))) (by kernel_rfl) ?_
        refine RW.v ?_
        refine RW.nil ?_
        exact ⟨rfl, rfl, ((l.getD i default).p) + ((k : Nat) : Int), (by unfold posK; rw [if_pos hc22]), H, rfl, rfl, rfl, rfl, rfl, rfl, rfl, rfl, rfl, rfl, rfl, rfl, rfl, rfl⟩
       ·have hc22b := hc22
        have hc22 := ne_of_beq_false hc22
        refine W.skip ?_
        exact ⟨rfl, rfl, (l.getD i default).p, (by unfold posK; rw [if_neg hc22]), H, rfl, rfl, rfl, rfl, rfl, rfl, rfl, rfl, rfl, rfl, rfl, rfl, rfl, rfl⟩
      clear H
      rintro ta _ ⟨ps, hps, H, e0, e2, e3, e4, e5, e6, e17, e18, e19, e20, e21, e22, e24, e25⟩
      refine W.rst [(0, v1), (2, .int .i64 to_), (3, .int .i64 ((wd : Nat) : Int)), (4, .int .i64 ((tab : Nat) : Int)), (5, .bool wrap), (6, .int .i64 ((most : Nat) : Int)), (17, u), (18, un), (19, .int .i64 ((col : Nat) : Int)), (20, .int .i64 ((lim : Nat) : Int)), (21, .int .i64 ((i : Nat) : Int)), (22, tv9), (24, .int .i64 ((k : Nat) : Int)), (25, .int .i64 ps)] ⟨e0, e2, e3, e4, e5, e6, e17, e18, e19, e20, e21, e22, e24, e25, trivial⟩ fun TA => ?_
      clear e0 e2 e3 e4 e5 e6 e17 e18 e19 e20 e21 e22 e24 e25
      refine W.seq ?_
      refine W.drawn (by kernel_rfl) (by kernel_rfl) H.gn ?_
      have H23 := H
      iterate 2 refine RW.v ?_
      refine RW.idxF (hv.le le1) (by kernel_rfl) (by kernel_rfl) rfl Tryd.underlying37 (by kernel_rfl) rfl rfl ⟨by omega, by omega⟩ (by kernel_rfl) ?_
      intro b24 q25 r26 hF27 hE28
      rw [ints_at (l := TX) (j := k) (by omega)] at hE28
      refine RW.loads 1 (by kernel_rfl) (by kernel_rfl) rfl rfl (H23.old _ _ hF27) hE28 rfl (by kernel_rfl) ?_
      iterate 5 refine RW.v ?_
      refine RW.idxF (h1.le le0) (by kernel_rfl) (by kernel_rfl) rfl Tryd.underlying22 (by kernel_rfl) rfl rfl ⟨by omega, by omega⟩ (by kernel_rfl) ?_
      intro b29 q30 r31 hF32 hE33
      rw [pC_ati (l := l) (j := i) (by omega)] at hE33
      refine RW.v ?_
      refine RW.loads 5 (by kernel_rfl) (by kernel_rfl) rfl rfl (H23.old _ _ hF32) (sub_take hE33 4 5 (by decide)) rfl (by kernel_rfl) ?_
      refine RW.cl ?_
      refine ((r_one (x := (l.getD i default)) (c := TX.getD k 0) (pos := ps) (col := col) (tab := tab) ht ht2 (by omega) H23).mono ?_)
      rintro ov34 _ ⟨F, cu, le, hu, au, H35⟩
      replace le0 := fun b y h => le b y (le0 b y h)
      replace acn := acn.le le
      replace aro := aro.le le
      replace le1 := fun b y h => le b y (le1 b y h)
      obtain ⟨n, hn⟩ : ∃ n, n = unitN tab col (TX.getD k 0) (l.getD i default) := ⟨_, rfl⟩
      obtain ⟨XS, hXS⟩ : ∃ XS, XS = unitX (TX.getD k 0) (l.getD i default) := ⟨_, rfl⟩
      obtain ⟨fd, hfd⟩ : ∃ fd, fd = decide (TX.getD k 0 = 10) := ⟨_, rfl⟩
      have hnx := unit_bd (tab := tab) (col := col) (c := TX.getD k 0) (q := (l.getD i default)) ht2
      have hXl := unitX_len (TX.getD k 0) (l.getD i default)
      have hcN := colN_eq (tab := tab) (col := col) (c := TX.getD k 0) (q := (l.getD i default))
      rw [← hn, ← hXS, ← hfd] at hu au
      rw [← hn, ← hXS] at hnx hcN
      rw [← hXS] at hXl
      rw [List.length_replicate] at hu
      obtain ⟨F2, hF2⟩ : ∃ F2, F2 = F := ⟨_, rfl⟩
      have le2 : Le F2 F := fun b y h => hF2 ▸ h
      rw [← hF2] at hu au
      obtain ⟨US, hUS⟩ : ∃ US, US = unitsM tab (colN tab col (TX.getD k 0) (l.getD i default)) (charsP (l.getD i default) (posK (l.getD i default) (k + 1)) (TX.drop (k + 1)) ++ charsM (l.drop (i + 1))) := ⟨_, rfl⟩
      have hgU : fd = false → 1 ≤ n → 1 ≤ XS.length := fun h1 h2 => by rw [hXS]; exact unitX_pos (by rw [hfd] at h1; simpa using h1) (by rw [← hn]; exact h2)
      replace hT : T = finR to_ wd wrap (runR wd lim wrap (List.replicate n ⟨XS, ps, fd⟩ ++ US) ⟨out, now⟩) := by rw [hUS, hn, hXS, hfd, hps]; exact hT
      refine RW.v ?_
      refine RW.nil ?_
      refine ⟨⟨by kernel_rfl, ⟨trivial, trivial, trivial, Or.inl (by kernel_rfl), trivial, trivial, trivial, trivial, trivial, trivial, trivial, Or.inl (by kernel_rfl), trivial, trivial, trivial⟩⟩, ?_⟩
      replace H := H35
      clear H23 H35
      refine W.rg [(0, v1), (2, .int .i64 to_), (3, .int .i64 ((wd : Nat) : Int)), (4, .int .i64 ((tab : Nat) : Int)), (5, .bool wrap), (6, .int .i64 ((most : Nat) : Int)), (17, u), (18, un), (19, .int .i64 ((col : Nat) : Int)), (20, .int .i64 ((lim : Nat) : Int)), (21, .int .i64 ((i : Nat) : Int)), (22, tv9), (24, .int .i64 ((k : Nat) : Int)), (26, ov34)] fun TA => ?_
      refine W.seq (W.region ?_)
      refine RW.v ?_
      refine RW.nil ?_
      refine W.rg [(0, v1), (2, .int .i64 to_), (3, .int .i64 ((wd : Nat) : Int)), (4, .int .i64 ((tab : Nat) : Int)), (5, .bool wrap), (6, .int .i64 ((most : Nat) : Int)), (17, u), (18, un), (19, .int .i64 ((col : Nat) : Int)), (20, .int .i64 ((lim : Nat) : Int)), (21, .int .i64 ((i : Nat) : Int)), (22, tv9), (24, .int .i64 ((k : Nat) : Int)), (26, ov34), (27, .int .i64 0)] fun TA => ?_
      refine W.block ?_
      have hBu : now.length + out.length + n + 64 * (charsP (l.getD i default) (posK (l.getD i default) (k + 1)) (TX.drop (k + 1)) ++ charsM (l.drop (i + 1))).length ≤ 500000 := by omega
      refine W.loop (fun mm3 ta σ => ∃ (j : Nat) (F : Nat → Option Blk2) (un : Value) (cn : List Value) (now : List Un) (u : Value) (c2 : List Value) (p2 : List Value) (out : List RowV) (cc : Nat), (mm3 + j = n) ∧ (Le F0 F) ∧ (Le F1 F) ∧ (Le F2 F) ∧ (AllU F cn now) ∧ (GoodU now) ∧ (NoFd now) ∧ (AllRow F c2 p2 out) ∧ (now.length + out.length + (n - j) + 64 * (charsP (l.getD i default) (posK (l.getD i default) (k + 1)) (TX.drop (k + 1)) ++ charsM (l.drop (i + 1))).length ≤ 500000) ∧ (fd = false → cc + (n - j) * XS.length = col + n * XS.length) ∧ (fd = true → 0 < j → cc = 0) ∧ (cc ≤ 2000000 + 2 * j) ∧ (T = finR to_ wd wrap (runR wd lim wrap (List.replicate (n - j) (⟨XS, ps, fd⟩ : Un) ++ US) ⟨out, now⟩)) ∧ Lies G A F σ (.sl 73 3 un now.length (unV cn now) :: .sl 39 5 u out.length (rowsV c2 p2 out) :: (L)) ∧ ta 0 = v1 ∧ ta 2 = .int .i64 to_ ∧ ta 3 = .int .i64 ((wd : Nat) : Int) ∧ ta 4 = .int .i64 ((tab : Nat) : Int) ∧ ta 5 = .bool wrap ∧ ta 6 = .int .i64 ((most : Nat) : Int) ∧ ta 17 = u ∧ ta 18 = un ∧ ta 19 = .int .i64 ((cc : Nat) : Int) ∧ ta 20 = .int .i64 ((lim : Nat) : Int) ∧ ta 21 = .int .i64 ((i : Nat) : Int) ∧ ta 22 = tv9 ∧ ta 24 = .int .i64 ((k : Nat) : Int) ∧ ta 26 = ov34 ∧ ta 27 = .int .i64 ((j : Nat) : Int)) n ?_ ?_
      ·exact ⟨0, F, un, cn, now, u, c2, p2, out, col, (by omega), le0, le1, le2, acn, gn, nn, aro, (by omega), (fun _ => rfl), (fun _ h => absurd h (Nat.lt_irrefl _)), (by omega), hT, H, rfl, rfl, rfl, rfl, rfl, rfl, rfl, rfl, rfl, rfl, rfl, rfl, rfl, rfl, rfl⟩
      clear H
      rintro mm3 ta _ ⟨j, F, un, cn, now, u, c2, p2, out, cc, hm3, le0, le1, le2, acn, gn, nn, aro, hBj, hcc, hcf, hcb, hT, H, e0, e2, e3, e4, e5, e6, e17, e18, e19, e20, e21, e22, e24, e26, e27⟩
      refine W.rst [(0, v1), (2, .int .i64 to_), (3, .int .i64 ((wd : Nat) : Int)), (4, .int .i64 ((tab : Nat) : Int)), (5, .bool wrap), (6, .int .i64 ((most : Nat) : Int)), (17, u), (18, un), (19, .int .i64 ((cc : Nat) : Int)), (20, .int .i64 ((lim : Nat) : Int)), (21, .int .i64 ((i : Nat) : Int)), (22, tv9), (24, .int .i64 ((k : Nat) : Int)), (26, ov34), (27, .int .i64 ((j : Nat) : Int))] ⟨e0, e2, e3, e4, e5, e6, e17, e18, e19, e20, e21, e22, e24, e26, e27, trivial⟩ fun TA => ?_
      clear e0 e2 e3 e4 e5 e6 e17 e18 e19 e20 e21 e22 e24 e26 e27
      refine W.seq ?_
      refine W.seq (W.region ?_)
      iterate 2 refine RW.v ?_
      refine RW.len (by kernel_rfl) (by kernel_rfl) rfl rfl rfl rfl ((hu.le le2).len (e := 73) (by kernel_rfl)) (by kernel_rfl) ?_
      refine RW.v ?_
      refine RW.nil ?_
      refine W.rg [(0, v1), (2, .int .i64 to_), (3, .int .i64 ((wd : Nat) : Int)), (4, .int .i64 ((tab : Nat) : Int)), (5, .bool wrap), (6, .int .i64 ((most : Nat) : Int)), (17, u), (18, un), (19, .int .i64 ((cc : Nat) : Int)), (20, .int .i64 ((lim : Nat) : Int)), (21, .int .i64 ((i : Nat) : Int)), (22, tv9), (24, .int .i64 ((k : Nat) : Int)), (26, ov34), (27, .int .i64 ((j : Nat) : Int)), (128, .bool (decide (((j : Nat) : Int) < (n : Int))))] fun TA => ?_
      refine W.cond rfl (fun hc36 => ?_) (fun hc36 => ?_)
      ·have hc36b := hc36
       have hc36 := of_decide_eq_true hc36
       have hjn : j < n := by omega
       rw [rep_step hjn] at hT
       have hXl2 := hXl
       refine W.skip ?_
       refine W.seq ?_
       refine W.block ?_
       refine W.seq (W.region ?_)
       iterate 3 refine RW.v ?_
       refine RW.idxF (hu.le le2) (by kernel_rfl) (by kernel_rfl) rfl Tryd.underlying68 (by kernel_rfl) rfl rfl ⟨by omega, by omega⟩ (by kernel_rfl) ?_
       intro b37 q38 r39 hF40 hE41
       rw [unV_rep (cs := cu) (n := n) (j := j) au.1 (by omega)] at hE41
       refine RW.v ?_
       refine RW.loads 1 (by kernel_rfl) (by kernel_rfl) rfl rfl (H.old _ _ hF40) (sub_take hE41 0 1 (by decide)) rfl (by kernel_rfl) ?_
       refine RW.len (by kernel_rfl) (by kernel_rfl) rfl rfl rfl rfl ((repU (au.le le2) (show j < n by omega)).len (e := 79) (by kernel_rfl)) (by kernel_rfl) ?_
       refine RW.valE (v' := .int .i64 (((cc : Nat) : Int) + (XS.length : Int))) (by kernel_rfl) (by kernel_rfl) rfl (congrArg (Value.int .i64) (wrap_in (by omega) (by omega))) (by kernel_rfl) ?_
       refine RW.v ?_
       refine RW.nil ?_
       refine W.rg [(0, v1), (2, .int .i64 to_), (3, .int .i64 ((wd : Nat) : Int)), (4, .int .i64 ((tab : Nat) : Int)), (5, .bool wrap), (6, .int .i64 ((most : Nat) : Int)), (17, u), (18, un), (19, .int .i64 (((cc : Nat) : Int) + (XS.length : Int))), (20, .int .i64 ((lim : Nat) : Int)), (21, .int .i64 ((i : Nat) : Int)), (22, tv9), (24, .int .i64 ((k : Nat) : Int)), (26, ov34), (27, .int .i64 ((j : Nat) : Int))] fun TA => ?_
       refine W.block ?_
       refine W.seq (W.region ?_)
       iterate 2 refine RW.v ?_
       refine RW.idxF (hu.le le2) (by kernel_rfl) (by kernel_rfl) rfl Tryd.underlying68 (by kernel_rfl) rfl rfl ⟨by omega, by omega⟩ (by kernel_rfl) ?_
       intro b42 q43 r44 hF45 hE46
       rw [unV_rep (cs := cu) (n := n) (j := j) au.1 (by omega)] at hE46
       refine RW.v ?_
       refine RW.loads 1 (by kernel_rfl) (by kernel_rfl) rfl rfl (H.old _ _ hF45) (sub_take hE46 2 1 (by decide)) rfl (by kernel_rfl) ?_
       refine RW.v ?_
       refine RW.nil ?_
       refine W.rg [(0, v1), (2, .int .i64 to_), (3, .int .i64 ((wd : Nat) : Int)), (4, .int .i64 ((tab : Nat) : Int)), (5, .bool wrap), (6, .int .i64 ((most : Nat) : Int)), (17, u), (18, un), (19, .int .i64 (((cc : Nat) : Int) + (XS.length : Int))), (20, .int .i64 ((lim : Nat) : Int)), (21, .int .i64 ((i : Nat) : Int)), (22, tv9), (24, .int .i64 ((k : Nat) : Int)), (26, ov34), (27, .int .i64 ((j : Nat) : Int)), (139, .bool fd)] fun TA => ?_
       refine W.cond rfl (fun hc47 => ?_) (fun hc47 => ?_)
       ·have hc47b := hc47
        have hfdt := hc47b
        skip
        rw [runR_feed hc47b] at hT
        refine W.seq (W.region ?_)
        iterate 4 refine RW.v ?_
        refine RW.idxF (hu.le le2) (by kernel_rfl) (by kernel_rfl) rfl Tryd.underlying68 (by kernel_rfl) rfl rfl ⟨by omega, by omega⟩ (by kernel_rfl) ?_
        intro b48 q49 r50 hF51 hE52
        rw [unV_rep (cs := cu) (n := n) (j := j) au.1 (by omega)] at hE52
        refine RW.v ?_
        refine RW.loads 1 (by kernel_rfl) (by kernel_rfl) rfl rfl (H.old _ _ hF51) (sub_take hE52 1 1 (by decide)) rfl (by kernel_rfl) ?_
        iterate 2 refine RW.v ?_
        obtain ⟨F, le, hkn, H⟩ := H.freezeK 0 rfl
        dsimp only [setL, delL] at H
        replace le0 := fun b y h => le b y (le0 b y h)
        replace acn := acn.le le
        replace aro := aro.le le
        replace le1 := fun b y h => le b y (le1 b y h)
        replace le2 := fun b y h => le b y (le2 b y h)
        refine RW.cl ?_
        refine ((r_laid (e := ps) (wrap := wrap) h4 h5 gn nn (by omega) hkn acn H).mono ?_)
        clear H
        rintro lv53 _ ⟨F, c54, p55, le, hl3, ar3, H⟩
        replace le0 := fun b y h => le b y (le0 b y h)
        replace acn := acn.le le
        replace aro := aro.le le
        replace le1 := fun b y h => le b y (le1 b y h)
        replace le2 := fun b y h => le b y (le2 b y h)
        have hll := laidR_len (wd := wd) (wrap := wrap) (e := ps) h4 gn
        refine RW.appFB H 0 (e2 := 39) hl3 (by kernel_rfl) (by kernel_rfl) rfl rfl rfl rfl rfl rfl rfl (by kernel_rfl) (by kernel_rfl) (by kernel_rfl) (by decide) ((rowsV_ones ar3)) (by omega) (by kernel_rfl) ?_
        clear H; intro _ v56 _ H
        dsimp only [setL, delL] at H
        rw [← rowsV_append aro.1 aro.2.1, ← List.length_append] at H
        have aro2 := aro.append ar3
        clear aro
        have aro := aro2
        clear aro2
        refine RW.v ?_
        refine RW.nil ?_
        refine W.rg [(0, v1), (2, .int .i64 to_), (3, .int .i64 ((wd : Nat) : Int)), (4, .int .i64 ((tab : Nat) : Int)), (5, .bool wrap), (6, .int .i64 ((most : Nat) : Int)), (17, v56), (20, .int .i64 ((lim : Nat) : Int)), (21, .int .i64 ((i : Nat) : Int)), (22, tv9), (24, .int .i64 ((k : Nat) : Int)), (26, ov34), (27, .int .i64 ((j : Nat) : Int))] fun TA => ?_
        refine W.seq (W.region ?_)
        refine RW.v ?_
        refine RW.nil ?_
        refine W.rg [(0, v1), (2, .int .i64 to_), (3, .int .i64 ((wd : Nat) : Int)), (4, .int .i64 ((tab : Nat) : Int)), (5, .bool wrap), (6, .int .i64 ((most : Nat) : Int)), (17, v56), (18, .slice none 0 0), (20, .int .i64 ((lim : Nat) : Int)), (21, .int .i64 ((i : Nat) : Int)), (22, tv9), (24, .int .i64 ((k : Nat) : Int)), (26, ov34), (27, .int .i64 ((j : Nat) : Int))] fun TA => ?_
        refine W.region ?_
        refine RW.v ?_
        refine RW.nil ?_
        refine blkQ_normal ?_
        refine blkQ_normal ?_
        refine W.rg [(0, v1), (2, .int .i64 to_), (3, .int .i64 ((wd : Nat) : Int)), (4, .int .i64 ((tab : Nat) : Int)), (5, .bool wrap), (6, .int .i64 ((most : Nat) : Int)), (17, v56), (18, .slice none 0 0), (19, .int .i64 0), (20, .int .i64 ((lim : Nat) : Int)), (21, .int .i64 ((i : Nat) : Int)), (22, tv9), (24, .int .i64 ((k : Nat) : Int)), (26, ov34), (27, .int .i64 ((j : Nat) : Int))] fun TA => ?_
        refine W.region ?_
        refine RW.v ?_
        refine RW.valE (v' := .int .i64 (((j : Nat) : Int) + 1)) (by kernel_rfl) (by kernel_rfl) rfl (congrArg (Value.int .i64) (wrap_in (by omega) (by omega))) (by kernel_rfl) ?_
        refine RW.v ?_
        refine RW.nil ?_
        replace H := H.nilSl 73 3
        exact ⟨rfl, mm3 - 1, by omega, j + 1, F, .slice none 0 0, [], [], v56, (c2 ++ c54), (p2 ++ p55), (out ++ (laidR wd wrap ps now)), 0, (by omega), le0, le1, le2, AllU.nil, (fun _ h => by simp at h), (fun _ h => by simp at h), aro, (by rw [List.length_append]; show 0 + _ + _ + _ ≤ _; omega), (fun h => by rw [hfdt] at h; cases h), (fun _ _ => rfl), (by omega), hT, H, rfl, rfl, rfl, rfl, rfl, rfl, rfl, rfl, rfl, rfl, rfl, rfl, rfl, rfl, rfl⟩
       ·have hc47b := hc47
        have hfdf := hc47b
        refine W.seq (W.region ?_)
        refine RW.v ?_
        refine RW.len (by kernel_rfl) (by kernel_rfl) rfl rfl rfl rfl ((H.sl 0 rfl).len (by kernel_rfl)) (by kernel_rfl) ?_
        iterate 3 refine RW.v ?_
        refine RW.nil ?_
        refine W.rg [(0, v1), (2, .int .i64 to_), (3, .int .i64 ((wd : Nat) : Int)), (4, .int .i64 ((tab : Nat) : Int)), (5, .bool wrap), (6, .int .i64 ((most : Nat) : Int)), (17, u), (18, un), (19, .int .i64 (((cc : Nat) : Int) + (XS.length : Int))), (20, .int .i64 ((lim : Nat) : Int)), (21, .int .i64 ((i : Nat) : Int)), (22, tv9), (24, .int .i64 ((k : Nat) : Int)), (26, ov34), (27, .int .i64 ((j : Nat) : Int)), (156, .bool (decide (((now.length : Nat) : Int) < ((lim : Nat) : Int))))] fun TA => ?_
        refine W.cond rfl (fun hc57 => ?_) (fun hc57 => ?_)
        ·have hc57b := hc57
         have hc57 := of_decide_eq_true hc57
         rw [runR_put hfdf (by omega)] at hT
         refine W.region ?_
         iterate 3 refine RW.v ?_
         refine RW.idxF (hu.le le2) (by kernel_rfl) (by kernel_rfl) rfl Tryd.underlying68 (by kernel_rfl) rfl rfl ⟨by omega, by omega⟩ (by kernel_rfl) ?_
         intro b58 q59 r60 hF61 hE62
         rw [unV_rep (cs := cu) (n := n) (j := j) au.1 (by omega)] at hE62
         refine RW.loads 3 (by kernel_rfl) (by kernel_rfl) rfl rfl (H.old _ _ hF61) hE62 rfl (by kernel_rfl) ?_
         refine RW.mkL H (x := .row ⟨[(cu.getD j undef), .int .i64 ps, .bool fd], 73, false⟩) (fm := fun b => .slice (some ⟨b, 0, none⟩) 1 1) (by kernel_rfl) (by kernel_rfl) (by rcases slf_forms (repU (au.le le2) (show j < n by omega)) with e0 | ⟨_, e0⟩ | ⟨_, _, _, _, _, e0⟩ <;> rw [e0] <;> kernel_rfl) (by kernel_rfl) ?_
         clear H; intro _ b63 _ H
         refine RW.appL H 1 0 (n := 1) (e2 := 73) (by kernel_rfl) (by kernel_rfl) rfl rfl rfl rfl rfl rfl rfl rfl (by kernel_rfl) (by kernel_rfl) (by kernel_rfl) (by decide) (by decide) rfl (by rcases slf_forms (repU (au.le le2) (show j < n by omega)) with e0 | ⟨_, e0⟩ | ⟨_, _, _, _, _, e0⟩ <;> rw [e0] <;> rfl) (by omega) (by kernel_rfl) ?_
         clear H; intro _ v64 _ H
         dsimp only [setL, delL] at H
         rw [← unV_app (cu.getD j undef) (⟨XS, ps, fd⟩ : Un) acn.1] at H
         have acn2 := acn.snoc (c := (cu.getD j undef)) (u := (⟨XS, ps, fd⟩ : Un)) (repU (au.le le2) hjn)
         rw [show now.length + 1 = (now ++ [(⟨XS, ps, fd⟩ : Un)]).length by rw [List.length_append]; rfl] at H
         refine RW.v ?_
         refine RW.nil ?_
         refine blkQ_normal ?_
         refine blkQ_normal ?_
         refine W.rg [(0, v1), (2, .int .i64 to_), (3, .int .i64 ((wd : Nat) : Int)), (4, .int .i64 ((tab : Nat) : Int)), (5, .bool wrap), (6, .int .i64 ((most : Nat) : Int)), (17, u), (18, v64), (19, .int .i64 (((cc : Nat) : Int) + (XS.length : Int))), (20, .int .i64 ((lim : Nat) : Int)), (21, .int .i64 ((i : Nat) : Int)), (22, tv9), (24, .int .i64 ((k : Nat) : Int)), (26, ov34), (27, .int .i64 ((j : Nat) : Int))] fun TA => ?_
         refine W.region ?_
         refine RW.v ?_
         refine RW.valE (v' := .int .i64 (((j : Nat) : Int) + 1)) (by kernel_rfl) (by kernel_rfl) rfl (congrArg (Value.int .i64) (wrap_in (by omega) (by omega))) (by kernel_rfl) ?_
         refine RW.v ?_
         refine RW.nil ?_
         exact ⟨rfl, mm3 - 1, by omega, j + 1, F, v64, (cn ++ [(cu.getD j undef)]), (now ++ [(⟨XS, ps, fd⟩ : Un)]), u, c2, p2, out, (cc + XS.length), (by omega), le0, le1, le2, acn2, (goodU_snoc gn (u := (⟨XS, ps, fd⟩ : Un)) hXl2 (fun h => hgU h (by omega))), (noFd_snoc nn (u := (⟨XS, ps, fd⟩ : Un)) hfdf), aro, (by rw [List.length_append, List.length_singleton]; omega), (fun h => by have := hcc h; rw [show n - j = (n - (j + 1)) + 1 by omega, Nat.succ_mul] at this; omega), (fun h _ => by rw [hfdf] at h; cases h), (by omega), hT, H, rfl, rfl, rfl, rfl, rfl, rfl, rfl, rfl, rfl, rfl, rfl, rfl, rfl, rfl, rfl⟩
        ·have hc57b := hc57
         have hc57 := of_decide_eq_false hc57
         rw [runR_full hfdf (by omega)] at hT
         refine W.skip ?_
         refine blkQ_normal ?_
         refine blkQ_normal ?_
         refine W.region ?_
         refine RW.v ?_
         refine RW.valE (v' := .int .i64 (((j : Nat) : Int) + 1)) (by kernel_rfl) (by kernel_rfl) rfl (congrArg (Value.int .i64) (wrap_in (by omega) (by omega))) (by kernel_rfl) ?_
         refine RW.v ?_
         refine RW.nil ?_
         exact ⟨rfl, mm3 - 1, by omega, j + 1, F, un, cn, now, u, c2, p2, out, (cc + XS.length), (by omega), le0, le1, le2, acn, gn, nn, aro, (by omega), (fun h => by have := hcc h; rw [show n - j = (n - (j + 1)) + 1 by omega, Nat.succ_mul] at this; omega), (fun h _ => by rw [hfdf] at h; cases h), (by omega), hT, H, rfl, rfl, rfl, rfl, rfl, rfl, rfl, rfl, rfl, rfl, rfl, rfl, rfl, rfl, rfl⟩
      ·have hc36b := hc36
       have hc36 := of_decide_eq_false hc36
       refine W.exit _ ?_
       refine seqQ_exit ?_
       refine rndQ_exit ?_
       rw [show n - j = 0 by omega] at hT hcc
       replace hT : T = finR to_ wd wrap (runR wd lim wrap (US) ⟨out, now⟩) := hT
       have hce : cc = colN tab col (TX.getD k 0) (l.getD i default) := col_end (fd := fd) hfd hcN (by omega) hcc hcf
       subst hce
       have hBn : now.length + out.length + 64 * (charsP (l.getD i default) (posK (l.getD i default) (k + 1)) (TX.drop (k + 1)) ++ charsM (l.drop (i + 1))).length ≤ 500000 := by omega
       have hcn : colN tab col (TX.getD k 0) (l.getD i default) + 64 * (charsP (l.getD i default) (posK (l.getD i default) (k + 1)) (TX.drop (k + 1)) ++ charsM (l.drop (i + 1))).length ≤ 1000000 := by have := colN_le (tab := tab) (col := col) (c := TX.getD k 0) (q := (l.getD i default)) ht2; omega
       refine blkQ_here ?_
       refine blkQ_normal ?_
       refine W.region ?_
       refine RW.v ?_
       refine RW.valE (v' := .int .i64 (((k : Nat) : Int) + 1)) (by kernel_rfl) (by kernel_rfl) rfl (congrArg (Value.int .i64) (wrap_in (by omega) (by omega))) (by kernel_rfl) ?_
       refine RW.v ?_
       refine RW.nil ?_
       exact ⟨rfl, mm2 - 1, by omega, k + 1, F, un, cn, now, u, c2, p2, out, (colN tab col (TX.getD k 0) (l.getD i default)), (by omega), le0, le1, acn, gn, nn, aro, hBn, hcn, (by rw [hT, hUS]), H, rfl, rfl, rfl, rfl, rfl, rfl, rfl, rfl, rfl, rfl, rfl, rfl, rfl⟩
     ·have hc11b := hc11
      have hc11 := of_decide_eq_false hc11
      refine W.exit _ ?_
      refine seqQ_exit ?_
      refine rndQ_exit ?_
      refine blkQ_here ?_
      refine blkQ_normal ?_
      refine W.region ?_
      refine RW.v ?_
      refine RW.valE (v' := .int .i64 (((i : Nat) : Int) + 1)) (by kernel_rfl) (by kernel_rfl) rfl (congrArg (Value.int .i64) (wrap_in (by omega) (by omega))) (by kernel_rfl) ?_
      refine RW.v ?_
      refine RW.nil ?_
      exact ⟨rfl, mm - 1, by omega, i + 1, F, un, cn, now, u, c2, p2, out, col, (by omega), le0, acn, gn, nn, aro, (by simp only [List.length_append] at hB hcol; omega), (by simp only [List.length_append] at hB hcol; omega), (.inr ⟨by omega, by rw [hT]; exact (runR_stop (s := ⟨out, now⟩) (show most < out.length by omega)).symm⟩), H, rfl, rfl, rfl, rfl, rfl, rfl, rfl, rfl, rfl, rfl, rfl⟩
    ·have hc10b := hc10
     have hc10 := of_decide_eq_false hc10
     iterate 4 refine RW.s ?_
     refine RW.v ?_
     refine RW.nil ?_
     refine W.c0 ?_
     refine W.exit _ ?_
     refine seqQ_exit ?_
     refine rndQ_exit ?_
     rw [List.drop_eq_nil_of_le (by omega)] at hB hcol hT
     replace hT : T = finR to_ wd wrap (runR wd lim wrap (unitsM tab col (charsM (l.drop (i + 1)))) ⟨out, now⟩) := hT
     replace hB : now.length + out.length + 64 * (charsM (l.drop (i + 1))).length ≤ 500000 := hB
     replace hcol : col + 64 * (charsM (l.drop (i + 1))).length ≤ 1000000 := hcol
     refine blkQ_here ?_
     refine blkQ_normal ?_
     refine W.region ?_
     refine RW.v ?_
     refine RW.valE (v' := .int .i64 (((i : Nat) : Int) + 1)) (by kernel_rfl) (by kernel_rfl) rfl (congrArg (Value.int .i64) (wrap_in (by omega) (by omega))) (by kernel_rfl) ?_
     refine RW.v ?_
     refine RW.nil ?_
     exact ⟨rfl, mm - 1, by omega, i + 1, F, un, cn, now, u, c2, p2, out, col, (by omega), le0, acn, gn, nn, aro, hB, hcol, (.inl hT), H, rfl, rfl, rfl, rfl, rfl, rfl, rfl, rfl, rfl, rfl, rfl⟩
   ·have hc3b := hc3
    have hc3 := of_decide_eq_false hc3
    refine W.exit _ ?_
    refine seqQ_exit ?_
    refine rndQ_exit ?_
    refine blkQ_here ?_
    exact ⟨rfl, rfl, F, un, cn, now, u, c2, p2, out, le0, acn, gn, nn, aro, (by omega), (.inr (by rcases hT with hT | hT; exact ⟨by omega, by rw [hT]; exact (runR_stop (s := ⟨out, now⟩) (show most < out.length by omega)).symm⟩; exact hT)), H, rfl, rfl, rfl, rfl, rfl, rfl⟩
  ·have hc2b := hc2
   have hc2 := of_decide_eq_false hc2
   iterate 4 refine RW.s ?_
   refine RW.v ?_
   refine RW.nil ?_
   refine W.c0 ?_
   refine W.exit _ ?_
   refine seqQ_exit ?_
   refine rndQ_exit ?_
   refine blkQ_here ?_
   exact ⟨rfl, rfl, F, un, cn, now, u, c2, p2, out, le0, acn, gn, nn, aro, (by omega), (by rcases hT with hT | hT; exact .inl (by rw [hT, List.drop_eq_nil_of_le (by omega)]; rfl); exact .inr hT), H, rfl, rfl, rfl, rfl, rfl, rfl⟩
 clear H
 rintro ta _ ⟨F, un, cn, now, u, c2, p2, out, le0, acn, gn, nn, aro, hB, hE, H, e2, e3, e5, e6, e17, e18⟩
 refine W.rst [(2, .int .i64 to_), (3, .int .i64 ((wd : Nat) : Int)), (5, .bool wrap), (6, .int .i64 ((most : Nat) : Int)), (17, u), (18, un)] ⟨e2, e3, e5, e6, e17, e18, trivial⟩ fun TA => ?_
 clear e2 e3 e5 e6 e17 e18
 refine W.join (fun ta σ => ∃ (F : Nat → Option Blk2) (u : Value) (c2 : List Value) (p2 : List Value) (out : List RowV), (Le F0 F) ∧ (AllRow F c2 p2 out) ∧ (out.length ≤ 1000001) ∧ (T.take (most + 1) = out.take (most + 1)) ∧ Lies G A F σ (.sl 39 5 u out.length (rowsV c2 p2 out) :: (L)) ∧ ta 2 = .int .i64 to_ ∧ ta 6 = .int .i64 ((most : Nat) : Int) ∧ ta 17 = u) ?_ ?_
 ·refine W.seq (W.region ?_)
  refine RW.v ?_
  refine RW.len (by kernel_rfl) (by kernel_rfl) rfl rfl rfl rfl ((H.sl 1 rfl).len (by kernel_rfl)) (by kernel_rfl) ?_
  iterate 2 refine RW.v ?_
  refine RW.nil ?_
  refine W.rg [(2, .int .i64 to_), (3, .int .i64 ((wd : Nat) : Int)), (5, .bool wrap), (6, .int .i64 ((most : Nat) : Int)), (17, u), (18, un), (171, .bool (decide (((out.length : Nat) : Int) ≤ ((most : Nat) : Int))))] fun TA => ?_
  refine W.cond rfl (fun hc65 => ?_) (fun hc65 => ?_)
  ·have hc65b := hc65
   have hc65 := of_decide_eq_true hc65
   refine W.region ?_
   iterate 5 refine RW.v ?_
   obtain ⟨F, le, hkn, H⟩ := H.freezeK 0 rfl
   dsimp only [setL, delL] at H
   replace le0 := fun b y h => le b y (le0 b y h)
   replace acn := acn.le le
   replace aro := aro.le le
   refine RW.cl ?_
   refine ((r_laid (e := to_) (wrap := wrap) h4 h5 gn nn (by omega) hkn acn H).mono ?_)
   clear H
   rintro lv66 _ ⟨F, c67, p68, le, hl3, ar3, H⟩
   replace le0 := fun b y h => le b y (le0 b y h)
   replace acn := acn.le le
   replace aro := aro.le le
   have hll := laidR_len (wd := wd) (wrap := wrap) (e := to_) h4 gn
   refine RW.appFB H 0 (e2 := 39) hl3 (by kernel_rfl) (by kernel_rfl) rfl rfl rfl rfl rfl rfl rfl (by kernel_rfl) (by kernel_rfl) (by kernel_rfl) (by decide) ((rowsV_ones ar3)) (by omega) (by kernel_rfl) ?_
   clear H; intro _ v69 _ H
   dsimp only [setL, delL] at H
   rw [← rowsV_append aro.1 aro.2.1, ← List.length_append] at H
   have aro2 := aro.append ar3
   clear aro
   have aro := aro2
   clear aro2
   refine RW.v ?_
   refine RW.nil ?_
   exact ⟨rfl, rfl, F, v69, (c2 ++ c67), (p2 ++ p68), (out ++ (laidR wd wrap to_ now)), le0, aro, (by simp only [List.length_append]; omega), (by rcases hE with hE | hE; rw [hE]; rfl; exfalso; omega), H, rfl, rfl, rfl⟩
  ·have hc65b := hc65
   have hc65 := of_decide_eq_false hc65
   refine W.skip ?_
   replace H := (H.del 0)
   dsimp only [delL] at H
   exact ⟨rfl, rfl, F, u, c2, p2, out, le0, aro, (by omega), (by rcases hE with hE | hE; exact (by rw [hE]; exact List.take_append_of_le_length (show most + 1 ≤ out.length by omega)); exact hE.2), H, rfl, rfl, rfl⟩
 clear H
 rintro ta _ ⟨F, u, c2, p2, out, le0, aro, hB, hE, H, e2, e6, e17⟩
 refine W.rst [(2, .int .i64 to_), (6, .int .i64 ((most : Nat) : Int)), (17, u)] ⟨e2, e6, e17, trivial⟩ fun TA => ?_
 clear e2 e6 e17
 refine W.seq ?_
 refine W.seq (W.region ?_)
 refine RW.v ?_
 refine RW.nil ?_
 refine W.rg [(2, .int .i64 to_), (6, .int .i64 ((most : Nat) : Int)), (17, u), (28, .int .i64 0)] fun TA => ?_
 refine W.block ?_
 have hc2 := aro.1
 have hp2 := aro.2.1
 refine W.loop (fun mm ta σ => ∃ (i : Nat), (mm + i = out.length) ∧ Lies G A F σ (.sl 39 5 u out.length (rowsV c2 p2 (mixR to_ out i)) :: (L)) ∧ ta 2 = .int .i64 to_ ∧ ta 6 = .int .i64 ((most : Nat) : Int) ∧ ta 17 = u ∧ ta 28 = .int .i64 ((i : Nat) : Int)) out.length ?_ ?_
 ·exact ⟨0, (by omega), H, rfl, rfl, rfl, rfl⟩
 clear H
 rintro mm ta _ ⟨i, hm, H, e2, e6, e17, e28⟩
 refine W.rst [(2, .int .i64 to_), (6, .int .i64 ((most : Nat) : Int)), (17, u), (28, .int .i64 ((i : Nat) : Int))] ⟨e2, e6, e17, e28, trivial⟩ fun TA => ?_
 clear e2 e6 e17 e28
 refine W.seq ?_
 refine W.seq (W.region ?_)
 iterate 2 refine RW.v ?_
 refine RW.len (by kernel_rfl) (by kernel_rfl) rfl rfl rfl rfl ((H.sl 0 rfl).len (by kernel_rfl)) (by kernel_rfl) ?_
 refine RW.v ?_
 refine RW.nil ?_
 refine W.rg [(2, .int .i64 to_), (6, .int .i64 ((most : Nat) : Int)), (17, u), (28, .int .i64 ((i : Nat) : Int)), (182, .bool (decide (((i : Nat) : Int) < ((out.length : Nat) : Int))))] fun TA => ?_
 refine W.cond rfl (fun hc70 => ?_) (fun hc70 => ?_)
 ·have hc70b := hc70
  have hc70 := of_decide_eq_true hc70
  have hio : i < out.length := by omega
  refine W.skip ?_
  refine W.seq ?_
  refine W.block ?_
  refine W.seq (W.region ?_)
  iterate 3 refine RW.v ?_
  refine RW.idxGS H 0 rfl (by kernel_rfl) (by kernel_rfl) rfl Tryd.underlying27 (by kernel_rfl) rfl rfl ⟨by omega, by omega⟩ (by kernel_rfl) ?_
  intro b71 q72 hb73 hq74
  refine RW.v ?_
  refine RW.stG H 0 rfl hb73 (vs := [.int .i64 to_]) (by show q72 + 3 + 1 ≤ out.length * 5; omega) (by kernel_rfl) (by kernel_rfl) rfl rfl rfl rfl (by kernel_rfl) (by kernel_rfl) ?_
  clear H; intro _ H
  dsimp only [setL, delL] at H
  replace H : Lies G A F _ (.sl 39 5 u out.length (overL (rowsV c2 p2 (mixR to_ out i)) (q72 + 3) [.int .i64 to_]) :: (L)) := H
  rw [show overL (rowsV c2 p2 (mixR to_ out i)) (q72 + 3) [.int .i64 to_] = rowsV c2 p2 ((mixR to_ out i).set i (rto ((mixR to_ out i).getD i default) to_)) by rw [hq74, Int.toNat_natCast]; exact rowsV_set (by rw [hc2]; exact (mixR_len hio).symm) (by rw [hp2]; exact (mixR_len hio).symm) (by have := mixR_len (to_ := to_) hio; omega)] at H
  refine RW.nil ?_
  refine W.rg [(2, .int .i64 to_), (6, .int .i64 ((most : Nat) : Int)), (17, u), (28, .int .i64 ((i : Nat) : Int))] fun TA => ?_
  refine W.seq (W.region ?_)
  refine RW.v ?_
  refine RW.valE (v' := .int .i64 (((i : Nat) : Int) + 1)) (by kernel_rfl) (by kernel_rfl) rfl (congrArg (Value.int .i64) (wrap_in (by omega) (by omega))) (by kernel_rfl) ?_
  refine RW.v ?_
  refine RW.len (by kernel_rfl) (by kernel_rfl) rfl rfl rfl rfl ((H.sl 0 rfl).len (by kernel_rfl)) (by kernel_rfl) ?_
  refine RW.v ?_
  refine RW.nil ?_
  refine W.rg [(2, .int .i64 to_), (6, .int .i64 ((most : Nat) : Int)), (17, u), (28, .int .i64 ((i : Nat) : Int)), (194, .bool (decide ((((i : Nat) : Int) + 1) < ((out.length : Nat) : Int))))] fun TA => ?_
  refine W.cond rfl (fun hc75 => ?_) (fun hc75 => ?_)
  ·have hc75b := hc75
   have hc75 := of_decide_eq_true hc75
   refine W.region ?_
   iterate 4 refine RW.v ?_
   refine RW.valE (v' := .int .i64 (((i : Nat) : Int) + 1)) (by kernel_rfl) (by kernel_rfl) rfl (congrArg (Value.int .i64) (wrap_in (by omega) (by omega))) (by kernel_rfl) ?_
   refine RW.idxG H 0 rfl (by kernel_rfl) (by kernel_rfl) rfl Tryd.underlying27 (by kernel_rfl) rfl rfl ⟨by omega, by omega⟩ (by kernel_rfl) ?_
   intro b76 q77 r78 hF79 hE80
   rw [rowsV_ati2 (j := (((i : Nat) : Int) + 1).toNat) (i := ((i : Nat) : Int) + 1) (by omega) (show c2.length = ((mixR to_ out i).set i (rto ((mixR to_ out i).getD i default) to_)).length by rw [hc2]; rw [List.length_set]; exact (mixR_len hio).symm) (show p2.length = ((mixR to_ out i).set i (rto ((mixR to_ out i).getD i default) to_)).length by rw [hp2]; rw [List.length_set]; exact (mixR_len hio).symm) (by rw [List.length_set]; have := mixR_len (to_ := to_) hio; omega)] at hE80
   refine RW.v ?_
   refine RW.loads 1 (by kernel_rfl) (by kernel_rfl) rfl rfl (hF79) (sub_take hE80 2 1 (by decide)) rfl (by kernel_rfl) ?_
   refine RW.idxGS H 0 rfl (by kernel_rfl) (by kernel_rfl) rfl Tryd.underlying27 (by kernel_rfl) rfl rfl ⟨by omega, by omega⟩ (by kernel_rfl) ?_
   intro b81 q82 hb83 hq84
   refine RW.v ?_
   refine RW.stG H 0 rfl hb83 (vs := [.int .i64 ((((mixR to_ out i).set i (rto ((mixR to_ out i).getD i default) to_)).getD ((((i : Nat) : Int) + 1).toNat) default).fr)]) (by show q82 + 3 + 1 ≤ out.length * 5; omega) (by kernel_rfl) (by kernel_rfl) rfl rfl rfl rfl (by kernel_rfl) (by kernel_rfl) ?_
   clear H; intro _ H
   dsimp only [setL, delL] at H
   replace H : Lies G A F _ (.sl 39 5 u out.length (overL (rowsV c2 p2 ((mixR to_ out i).set i (rto ((mixR to_ out i).getD i default) to_))) (q82 + 3) [.int .i64 ((((mixR to_ out i).set i (rto ((mixR to_ out i).getD i default) to_)).getD ((((i : Nat) : Int) + 1).toNat) default).fr)]) :: (L)) := H
   rw [show overL (rowsV c2 p2 ((mixR to_ out i).set i (rto ((mixR to_ out i).getD i default) to_))) (q82 + 3) [.int .i64 ((((mixR to_ out i).set i (rto ((mixR to_ out i).getD i default) to_)).getD ((((i : Nat) : Int) + 1).toNat) default).fr)] = rowsV c2 p2 (((mixR to_ out i).set i (rto ((mixR to_ out i).getD i default) to_)).set i (rto (((mixR to_ out i).set i (rto ((mixR to_ out i).getD i default) to_)).getD i default) ((((mixR to_ out i).set i (rto ((mixR to_ out i).getD i default) to_)).getD ((((i : Nat) : Int) + 1).toNat) default).fr))) by rw [hq84, Int.toNat_natCast]; exact rowsV_set (by rw [hc2]; rw [List.length_set]; exact (mixR_len hio).symm) (by rw [hp2]; rw [List.length_set]; exact (mixR_len hio).symm) (by rw [List.length_set]; have := mixR_len (to_ := to_) hio; omega)] at H
   refine RW.nil ?_
   refine blkQ_normal ?_
   refine W.rg [(2, .int .i64 to_), (6, .int .i64 ((most : Nat) : Int)), (17, u), (28, .int .i64 ((i : Nat) : Int))] fun TA => ?_
   refine W.region ?_
   refine RW.v ?_
   refine RW.valE (v' := .int .i64 (((i : Nat) : Int) + 1)) (by kernel_rfl) (by kernel_rfl) rfl (congrArg (Value.int .i64) (wrap_in (by omega) (by omega))) (by kernel_rfl) ?_
   refine RW.v ?_
   refine RW.nil ?_
   rw [show (((mixR to_ out i).set i (rto ((mixR to_ out i).getD i default) to_)).set i (rto (((mixR to_ out i).set i (rto ((mixR to_ out i).getD i default) to_)).getD i default) ((((mixR to_ out i).set i (rto ((mixR to_ out i).getD i default) to_)).getD ((((i : Nat) : Int) + 1).toNat) default).fr))) = mixR to_ out (i + 1) from mixR_go hio (by omega)] at H
   exact ⟨rfl, mm - 1, by omega, i + 1, (by omega), H, rfl, rfl, rfl, rfl⟩
  ·have hc75b := hc75
   have hc75 := of_decide_eq_false hc75
   refine W.skip ?_
   refine blkQ_normal ?_
   refine W.region ?_
   refine RW.v ?_
   refine RW.valE (v' := .int .i64 (((i : Nat) : Int) + 1)) (by kernel_rfl) (by kernel_rfl) rfl (congrArg (Value.int .i64) (wrap_in (by omega) (by omega))) (by kernel_rfl) ?_
   refine RW.v ?_
   refine RW.nil ?_
   rw [show ((mixR to_ out i).set i (rto ((mixR to_ out i).getD i default) to_)) = mixR to_ out (i + 1) from mixR_last hio (by omega)] at H
   exact ⟨rfl, mm - 1, by omega, i + 1, (by omega), H, rfl, rfl, rfl, rfl⟩
 ·have hc70b := hc70
  have hc70 := of_decide_eq_false hc70
  refine W.exit _ ?_
  refine seqQ_exit ?_
  refine rndQ_exit ?_
  obtain rfl : i = out.length := by omega
  rw [mixR_all] at H
  refine blkQ_here ?_
  refine W.seq ?_
  refine W.seq (W.region ?_)
  refine RW.v ?_
  refine RW.len (by kernel_rfl) (by kernel_rfl) rfl rfl rfl rfl ((H.sl 0 rfl).len (by kernel_rfl)) (by kernel_rfl) ?_
  iterate 2 refine RW.v ?_
  refine RW.nil ?_
  refine W.rg [(6, .int .i64 ((most : Nat) : Int)), (17, u), (208, .bool (decide (((out.length : Nat) : Int) > ((most : Nat) : Int))))] fun TA => ?_
  refine W.cond rfl (fun hc85 => ?_) (fun hc85 => ?_)
  ·have hc85b := hc85
   have hc85 := of_decide_eq_true hc85
   refine W.region ?_
   iterate 2 refine RW.v ?_
   obtain ⟨F, le, hko, H⟩ := H.freezeK 0 rfl
   dsimp only [setL, delL] at H
   replace le0 := fun b y h => le b y (le0 b y h)
   replace aro := aro.le le
   obtain ⟨sv86, hv87, hk88⟩ := slk_cut (P := Tryd.prog) (t := 27) (e := 39) (i := most) hko (by kernel_rfl) (by kernel_rfl) (by omega)
   rw [rowsV_take (by rw [tosX_len]; exact aro.1) (by rw [tosX_len]; exact aro.2.1)] at hk88
   refine RW.vop (v := sv86) (by kernel_rfl) (by kernel_rfl) (vop_slice rfl hv87) (by kernel_rfl) ?_
   refine RW.v ?_
   refine RW.nil ?_
   refine W.rg [(17, sv86)] fun TA => ?_
   refine W.seq (W.region ?_)
   iterate 3 refine RW.v ?_
   refine RW.nil ?_
   refine W.ret ?_
   refine endG (by rfl) (by exact resL_tmp (by exact resL_tmp rfl)) ?_
   have eR : (tosX T to_).take most = (tosX out to_).take most := tos_take_eq hE
   rw [eR]
   have hlen : ((tosX out to_).take most).length = most := by rw [List.length_take, tosX_len]; omega
   have hk2 : SlF F 5 sv86 ((tosX out to_).take most).length (rowsV (c2.take most) (p2.take most) ((tosX out to_).take most)) := by rw [hlen]; exact hk88.slf
   exact ⟨F, _, _, _, le0, rfl, hk2, aro.tos.take most, H⟩
  ·have hc85b := hc85
   have hc85 := of_decide_eq_false hc85
   refine W.skip ?_
   refine W.seq (W.region ?_)
   iterate 3 refine RW.v ?_
   refine RW.nil ?_
   refine W.ret ?_
   refine endG (by rfl) (by exact resL_tmp (by exact resL_tmp rfl)) ?_
   have eR : (tosX T to_).take most = (tosX out to_).take most := tos_take_eq hE
   rw [eR]
   rw [List.take_of_length_le (show (tosX out to_).length ≤ most by rw [tosX_len]; omega)]
   obtain ⟨F', le, hko, H⟩ := H.freezeSl 0 rfl
   dsimp only [setL, delL] at H
   exact ⟨F', _, c2, p2, fun b y h => le b y (le0 b y h), rfl, by rw [tosX_len]; exact hko, (aro.le le).tos, H⟩
end
end Go.Proofs.YtmmapljeeccdnaaDoor
namespace Go.Proofs.YtmmapljeeccdnaaDoor
set_option maxRecDepth 100000
open Go.Lib Go.RowKit
theorem charsM_len2 {m : Nat} : ∀ {l : List Prt}, (∀ x ∈ l, x.s.length ≤ m) → (charsM l).length ≤ l.length * m
 | [], _ => Nat.zero_le _
 | x :: l, h => by
  show (charsP x x.p (runes x.s) ++ charsM l).length ≤ (l.length + 1) * m
  rw [List.length_append, charsP_len]
  have h1 := Nat.le_trans (runes_le x.s) (h x (by simp))
  have h2 := charsM_len2 (l := l) fun y hy => h y (by simp [hy])
  rw [Nat.succ_mul]
  omega
theorem eqPart (a b c : Int) (s : ByteArray) (p q : Int) (d e f : Bool) (w : World) : (Op.equalIn 10000 52 (.agg #[.int .i64 a, .int .i64 b, .int .i64 c, .string s, .int .i64 p, .int .i64 q, .bool d, .bool e, .bool f]) (.agg #[.int .i64 a, .int .i64 b, .int .i64 c, .string s, .int .i64 p, .int .i64 q, .bool d, .bool e, .bool f])).run Tryd.prog w = .ok true w := by
 have u3 := Tryd.underlying3
 have u4 := Tryd.underlying4
 have u9 := Tryd.underlying9
 have hS : Tryd.prog.underlying 52 = some (.struct (Tryd.prog.fieldsOf 52)) := by kernel_rfl
 have hp : Tryd.prog.stoodInHeld 52 = false := by kernel_rfl
 have hS2 : Tryd.prog.underlying 50 = some (.struct (Tryd.prog.fieldsOf 50)) := by kernel_rfl
 have hp2 : Tryd.prog.stoodInHeld 50 = false := by kernel_rfl
 have c5 : Tryd.prog.cellsOf 50 = 5 := by kernel_rfl
 have hL : ∀ w, (Op.equalIn 9999 50 (.agg #[.int .i64 p, .int .i64 q, .bool d, .bool e, .bool f]) (.agg #[.int .i64 p, .int .i64 q, .bool d, .bool e, .bool f])).run Tryd.prog w = .ok true w := fun w => by
  rw [show (9999 : Nat) = 9998 + 1 from rfl, run_equalIn_agg w 9998 50 _ _ hS2 hp2]
  simp only [Program.fieldsOf, Tryd.underlying50]
  go_simp
 rw [show (10000 : Nat) = 9999 + 1 from rfl, run_equalIn_agg w 9999 52 _ _ hS hp]
 simp only [Program.fieldsOf, Tryd.underlying52]
 go_simp
theorem pr_none {F : Nat → Option Blk2} {l : List Prt} {b : Nat} {t : TypeId} {g : Bool} (h : l.length = 0) (hq : F b = some (.row ⟨[], t, g⟩)) : SlF F 9 (.slice (some ⟨b, 0, none⟩) 0 0) l.length (pC l) := by
 obtain rfl := List.eq_nil_of_length_eq_zero h
 exact .some hq rfl rfl
theorem overL_map1 (P : List Int) (k : Nat) (x : Int) : overL (P.map (Value.int .i64)) k [.int .i64 x] = (overC P k [x]).map (Value.int .i64) := by
 have h := overL_map (Value.int .i64) P k x
 rw [Nat.mul_one] at h
 exact h
theorem REs_tos : ∀ {B : List (Nat × Nat)} {R : List RowV} {x : Int}, REs B (tosX R x) = REs B R
 | [], _, _ => rfl
 | _ :: _, [], _ => rfl
 | _ :: _, [_], _ => rfl
 | b :: B, r :: q :: R, x => by
  show _ :: _ :: REs B (tosX (q :: R) x) = _ :: _ :: REs B (q :: R)
  rw [REs_tos (B := B) (R := q :: R)]
  rfl
theorem REs_at : ∀ {B : List (Nat × Nat)} {R : List RowV} {i : Nat}, B.length = R.length → i < R.length → REs (B.drop i) (R.drop i) = .at_ (B.getD i default).1 (.row ⟨cC (R.getD i default).C, 79, false⟩) :: .at_ (B.getD i default).2 (.row ⟨(R.getD i default).P.map (Value.int .i64), 3, false⟩) :: REs (B.drop (i + 1)) (R.drop (i + 1)) := by
 intro B R i hB h
 rw [drop_get h, drop_get (show i < B.length by omega)]
 rfl
theorem rowsB_ati {wd : Nat} {B : List (Nat × Nat)} {R : List RowV} {j : Nat} (hB : B.length = R.length) (h : j < R.length) : ((rowsV (csB wd B) (psB wd B) R).drop (((j : Nat) : Int).toNat * 5)).take 5 = [.slice (some ⟨(B.getD j default).1, 0, none⟩) wd wd, .slice (some ⟨(B.getD j default).2, 0, none⟩) wd wd, .int .i64 (R.getD j default).fr, .int .i64 (R.getD j default).to, .bool (R.getD j default).co] := by
 rw [rowsV_ati (by rw [csB_len]; exact hB) (by rw [psB_len]; exact hB) h]
 have e1 : (csB wd B).getD j undef = scV wd (B.getD j default).1 := by
  unfold csB
  rw [List.getD_eq_getElem?_getD, List.getElem?_map, List.getD_eq_getElem?_getD, List.getElem?_eq_getElem (show j < B.length by omega)]
  rfl
 have e2 : (psB wd B).getD j undef = scV wd (B.getD j default).2 := by
  unfold psB
  rw [List.getD_eq_getElem?_getD, List.getElem?_map, List.getD_eq_getElem?_getD, List.getElem?_eq_getElem (show j < B.length by omega)]
  rfl
 rw [e1, e2]
 rfl
theorem AllOk.left {G : Nat} {σ : Mem} : ∀ {E L : List Ent}, AllOk G σ (E ++ L) → AllOk G σ E
 | [], _, _ => trivial
 | _ :: _, _, h => ⟨h.1, AllOk.left h.2⟩
theorem AllOk.right {G : Nat} {σ : Mem} : ∀ {E L : List Ent}, AllOk G σ (E ++ L) → AllOk G σ L
 | [], _, h => h
 | _ :: _, _, h => AllOk.right h.2
theorem Apart.right {F : Nat → Option Blk2} : ∀ {E L : List Ent}, Apart F (E ++ L) → Apart F L
 | [], _, h => h
 | _ :: _, _, h => Apart.right h.2
theorem Apart.cross {F : Nat → Option Blk2} : ∀ {E L : List Ent}, Apart F (E ++ L) → ∀ x ∈ E, ∀ b, x.blk = some b → F b = none ∧ ∀ y ∈ L, y.blk ≠ some b
 | _ :: _, _, h, x, hx, b, hb => by
  rcases List.mem_cons.1 hx with rfl | hx
  ·have := h.1 b hb
   exact ⟨this.1, fun y hy => this.2 y (List.mem_append.2 (.inr hy))⟩
  ·exact Apart.cross h.2 x hx b hb
theorem apart_back {F F' : Nat → Option Blk2} (le : Le F F') : ∀ {E L L' : List Ent}, Apart F (E ++ L) → Apart F' L' → (∀ x ∈ E, ∀ b, x.blk = some b → F' b ≠ none) → Apart F (E ++ L')
 | [], _, [], _, _, _ => trivial
 | [], L, y :: L', h, h', _ => by
  refine ⟨fun b hb => ⟨?_, (h'.1 b hb).2⟩, apart_back le (E := []) (L := L) (L' := L') h h'.2 fun x hx => by simp at hx⟩
  have := (h'.1 b hb).1
  cases e : F b with
  | none => rfl
  | some z => rw [le _ _ e] at this; cases this
 | x :: E, L, L', h, h', hf => by
  refine ⟨fun b hb => ⟨(h.1 b hb).1, fun y hy => ?_⟩, apart_back le (E := E) (L := L) (L' := L') h.2 h' fun z hz => hf z (List.mem_cons_of_mem _ hz)⟩
  rcases List.mem_append.1 hy with hy | hy
  ·exact (h.1 b hb).2 y (List.mem_append.2 (.inl hy))
  ·intro k
   exact hf x (List.mem_cons_self ..) b hb (mem_apart h' y hy b k)
where mem_apart {F : Nat → Option Blk2} : ∀ {L : List Ent}, Apart F L → ∀ y ∈ L, ∀ b, y.blk = some b → F b = none
 | x :: l, h, y, hy, b, hb => by
  rcases List.mem_cons.1 hy with rfl | hy
  ·exact (h.1 b hb).1
  ·exact mem_apart h.2 y hy b hb
theorem Lies.thaw {G : Nat} {A A' : Abs} {F F' : Nat → Option Blk2} {σ σ' : Mem} {E L L' : List Ent} (H : Lies G A F σ (E ++ L)) (le : Le F F') (hf : ∀ x ∈ E, ∀ b y, x.blk = some b → σ.get b = some y → F' b = some y) (H' : Lies G A' F' σ' L') : Lies G A' F σ' (E ++ L') := by
 have hE := AllOk.left H.ok
 refine ⟨H'.gn, fun b y h => H'.old b y (le b y h), H'.abs, allOk_app (hE.keep fun x hx b y hb hy => H'.old b y (hf x hx b y hb hy)) H'.ok, apart_back le H.apart H'.apart fun x hx b hb => ?_⟩
 obtain ⟨_, y, hy⟩ := Ent.Ok.is (hE.mem x hx) hb
 rw [hf x hx b y hb hy]
 exact fun h => by cases h
open Classical in
theorem Lies.fzE {G : Nat} {A : Abs} {F : Nat → Option Blk2} {σ : Mem} {E L : List Ent} (H : Lies G A F σ (E ++ L)) : ∃ F', Le F F' ∧ (∀ x ∈ E, ∀ b y, x.blk = some b → σ.get b = some y → F' b = some y) ∧ Lies G A F' σ L := by
 refine ⟨fun b => if (∃ x ∈ E, x.blk = some b) then σ.get b else F b, fun b y h => ?_, fun x hx b y hb hy => ?_, H.gn, fun b y h => ?_, H.abs, AllOk.right H.ok, (Apart.right H.apart).frozen fun z hz b hb => ?_⟩
 ·show (if _ then σ.get b else F b) = some y
  split
  ·exact H.old b y h
  ·exact h
 ·show (if _ then σ.get b else F b) = some y
  rw [if_pos ⟨x, hx, hb⟩]
  exact hy
 ·replace h : (if _ then σ.get b else F b) = some y := h
  split at h
  ·exact h
  ·exact H.old b y h
 ·show (if _ then σ.get b else F b) = none
  rw [if_neg, H.apart.mem z (List.mem_append.2 (.inr hz)) b hb]
  rintro ⟨x, hx, hxb⟩
  exact (Apart.cross H.apart x hx b hxb).2 z hz hb
theorem slf_grow {G : Nat} {F' : Nat → Option Blk2} {σ : Mem} {e s n : Nat} {v : Value} {xs : List Value} (hg : GRow G σ e s v n xs) (h : ∀ b y, blkOf v = some b → σ.get b = some y → F' b = some y) : SlF F' s v n xs := by
 have hlen := hg.length
 cases hg with
 | nil => exact .nil _ rfl
 | @row q l c r xs hq hr ht hc hl hx => exact .some (b := q) (r := r) (h q _ rfl hr) hlen (by rw [List.drop_zero]; exact hx)
theorem allRow_RE {G : Nat} {F' : Nat → Option Blk2} {σ : Mem} {wd : Nat} : ∀ {B : List (Nat × Nat)} {R : List RowV}, B.length = R.length → Wid wd R → AllOk G σ (REs B R) → (∀ x ∈ REs B R, ∀ b y, x.blk = some b → σ.get b = some y → F' b = some y) → AllRow F' (csB wd B) (psB wd B) R
 | [], [], _, _, _, _ => ⟨rfl, rfl, fun j hj => absurd hj (Nat.not_lt_zero _)⟩
 | b :: B, r :: R, h, hw, ok, hf => by
  have hr := hw r (by simp)
  have hq1 := hf _ (List.mem_cons_self ..) b.1 _ rfl ok.1.2
  have hq2 := hf _ (List.mem_cons_of_mem _ (List.mem_cons_self ..)) b.2 _ rfl ok.2.1.2
  have a := allRow_RE (wd := wd) (B := B) (R := R) (by simpa using h) (fun x hx => hw x (by simp [hx])) ok.2.2 fun x hx => hf x (List.mem_cons_of_mem _ (List.mem_cons_of_mem _ hx))
  refine ⟨congrArg (· + 1) a.1, congrArg (· + 1) a.2.1, fun j hj => ?_⟩
  match j with
  | 0 =>
   refine ⟨?_, ?_⟩
   ·show SlF F' 6 (.slice (some ⟨b.1, 0, none⟩) wd wd) r.C.length (cC r.C)
    rw [hr.1]
    exact .some hq1 (by rw [cC_len, hr.1]) (List.take_of_length_le (by rw [List.drop_zero, cC_len, hr.1]; exact Nat.le_refl _))
   ·show SlF F' 1 (.slice (some ⟨b.2, 0, none⟩) wd wd) r.P.length (r.P.map (Value.int .i64))
    rw [hr.2]
    exact .some hq2 (by rw [List.length_map, hr.2, Nat.mul_one]) (List.take_of_length_le (by rw [List.drop_zero, List.length_map, hr.2, Nat.mul_one]; exact Nat.le_refl _))
  | j + 1 => exact a.2.2 j (by simpa using hj)
section
variable {G : Nat} {A : Abs} {σ : Mem} {F : Nat → Option Blk2} {L : List Ent} {l : List Prt} {v1 v2 u : Value} {fr to_ wd tab most : Int} {wrap : Bool}
theorem RE_fz {w : Nat} {B : List (Nat × Nat)} {R : List RowV} (hB : B.length = R.length) (hw : Wid w R) (H : Lies G A F σ (.sl 39 5 u R.length (rowsV (csB w B) (psB w B) R) :: (REs B R ++ L))) : ∃ F', Le F F' ∧ SlF F' 5 u R.length (rowsV (csB w B) (psB w B) R) ∧ AllRow F' (csB w B) (psB w B) R ∧ Lies G A F' σ L ∧ ∀ σ', Lies G A F' σ' L → Lies G A F σ' (.sl 39 5 u R.length (rowsV (csB w B) (psB w B) R) :: (REs B R ++ L)) := by
 have H0 : Lies G A F σ ((.sl 39 5 u R.length (rowsV (csB w B) (psB w B) R) :: REs B R) ++ L) := H
 obtain ⟨F', le, hf, H1⟩ := H0.fzE
 have ok := AllOk.left H0.ok
 exact ⟨F', le, slf_grow ok.1 fun b y hb hy => hf _ (List.mem_cons_self ..) b y hb hy, allRow_RE hB hw ok.2 fun x hx => hf x (List.mem_cons_of_mem _ hx), H1, fun σ' H' => H0.thaw le hf H'⟩
set_option maxHeartbeats 8000000 in
theorem over_wc {wd : Nat} {B : List (Nat × Nat)} {R : List RowV} (hB : B.length = R.length) (hwid : Wid wd R) (hC : ∀ r ∈ R, r.C.length ≤ 1000000) (hR : R.length ≤ 1000000) (H : Lies G A F σ (.sl 39 5 u R.length (rowsV (csB wd B) (psB wd B) R) :: (REs B R ++ L))) : WC G Tryd.prog 18 #[u] σ fun _ σ' => Lies G A F σ' L := by
 refine WC.enter (fn := Tryd.f18) Tryd.func18 rfl ?_
 refine W.rg [(0, u)] fun TA => ?_
 refine W.seq (W.region ?_)
 refine RW.v ?_
 refine RW.nil ?_
 refine W.rg [(0, u), (2, .int .i64 0)] fun TA => ?_
 refine W.block ?_
 refine W.loop (fun mm ta σ => ∃ (i : Nat), (mm + i = R.length) ∧ Lies G A F σ (.sl 39 5 u R.length (rowsV (csB wd B) (psB wd B) R) :: (REs (B.drop i) (R.drop i) ++ L)) ∧ ta 0 = u ∧ ta 2 = .int .i64 ((i : Nat) : Int)) R.length ?_ ?_
 ·exact ⟨0, (by omega), H, rfl, rfl⟩
 clear H
 rintro mm ta _ ⟨i, hm, H, e0, e2⟩
 refine W.rst [(0, u), (2, .int .i64 ((i : Nat) : Int))] ⟨e0, e2, trivial⟩ fun TA => ?_
 clear e0 e2
 refine W.seq ?_
 refine W.seq (W.region ?_)
 iterate 2 refine RW.v ?_
 refine RW.len (by kernel_rfl) (by kernel_rfl) rfl rfl rfl rfl ((H.sl 0 rfl).len (by kernel_rfl)) (by kernel_rfl) ?_
 refine RW.v ?_
 refine RW.nil ?_
 refine W.rg [(0, u), (2, .int .i64 ((i : Nat) : Int)), (8, .bool (decide (((i : Nat) : Int) < ((R.length : Nat) : Int))))] fun TA => ?_
 refine W.cond rfl (fun hc1 => ?_) (fun hc1 => ?_)
 ·have hc1b := hc1
  have hc1 := of_decide_eq_true hc1
  have hiR : i < R.length := by omega
  have hW := hwid _ (get_mem hiR)
  have hwd : wd ≤ 1000000 := by have := hC _ (get_mem hiR); have := hW.1; omega
  rw [REs_at hB hiR] at H
  replace H : Lies G A F _ (.sl 39 5 u R.length (rowsV (csB wd B) (psB wd B) R) :: .at_ ((B.getD i default).1) (.row ⟨cC (R.getD i default).C, 79, false⟩) :: .at_ ((B.getD i default).2) (.row ⟨(R.getD i default).P.map (Value.int .i64), 3, false⟩) :: (REs (B.drop (i + 1)) (R.drop (i + 1)) ++ L)) := H
  refine W.skip ?_
  refine W.seq ?_
  refine W.block ?_
  refine W.seq ?_
  refine W.seq (W.region ?_)
  refine RW.v ?_
  refine RW.nil ?_
  refine W.rg [(0, u), (2, .int .i64 ((i : Nat) : Int)), (3, .int .i64 0)] fun TA => ?_
  refine W.block ?_
  have hC0 := hW.1
  refine W.loop (fun mm2 ta σ => ∃ (k : Nat) (C2 : List Cel), (mm2 + k = wd) ∧ (C2.length = wd) ∧ Lies G A F σ (.sl 39 5 u R.length (rowsV (csB wd B) (psB wd B) R) :: .at_ ((B.getD i default).1) (.row ⟨cC C2, 79, false⟩) :: .at_ ((B.getD i default).2) (.row ⟨(R.getD i default).P.map (Value.int .i64), 3, false⟩) :: (REs (B.drop (i + 1)) (R.drop (i + 1)) ++ L)) ∧ ta 0 = u ∧ ta 2 = .int .i64 ((i : Nat) : Int) ∧ ta 3 = .int .i64 ((k : Nat) : Int)) wd ?_ ?_
  ·exact ⟨0, (R.getD i default).C, (by omega), hC0, H, rfl, rfl, rfl⟩
  clear H
  rintro mm2 ta _ ⟨k, C2, hm2, hC2, H, e0, e2, e3⟩
  refine W.rst [(0, u), (2, .int .i64 ((i : Nat) : Int)), (3, .int .i64 ((k : Nat) : Int))] ⟨e0, e2, e3, trivial⟩ fun TA => ?_
  clear e0 e2 e3
  refine W.seq ?_
  refine W.seq (W.region ?_)
  iterate 3 refine RW.v ?_
  refine RW.idxG H 0 rfl (by kernel_rfl) (by kernel_rfl) rfl Tryd.underlying27 (by kernel_rfl) rfl rfl ⟨by omega, by omega⟩ (by kernel_rfl) ?_
  intro b2 q3 r4 hF5 hE6
  rw [rowsB_ati (wd := wd) (j := i) hB (by omega)] at hE6
  refine RW.v ?_
  refine RW.loads 1 (by kernel_rfl) (by kernel_rfl) rfl rfl (hF5) (sub_take hE6 0 1 (by decide)) rfl (by kernel_rfl) ?_
  iterate 2 refine RW.v ?_
  refine RW.nil ?_
  refine W.rg [(0, u), (2, .int .i64 ((i : Nat) : Int)), (3, .int .i64 ((k : Nat) : Int)), (18, .bool (decide (((k : Nat) : Int) < ((wd : Nat) : Int))))] fun TA => ?_
  refine W.cond rfl (fun hc7 => ?_) (fun hc7 => ?_)
  ·have hc7b := hc7
   have hc7 := of_decide_eq_true hc7
   have hk : k < wd := by omega
   refine W.skip ?_
   refine W.seq ?_
   refine W.block ?_
   refine W.region ?_
   iterate 2 refine RW.v ?_
   refine RW.idxG H 0 rfl (by kernel_rfl) (by kernel_rfl) rfl Tryd.underlying27 (by kernel_rfl) rfl rfl ⟨by omega, by omega⟩ (by kernel_rfl) ?_
   intro b8 q9 r10 hF11 hE12
   rw [rowsB_ati (wd := wd) (j := i) hB (by omega)] at hE12
   refine RW.v ?_
   refine RW.loads 1 (by kernel_rfl) (by kernel_rfl) rfl rfl (hF11) (sub_take hE12 0 1 (by decide)) rfl (by kernel_rfl) ?_
   refine RW.v ?_
   refine RW.val (v := .agg #[.int .i64 (-77), .int .i64 0, .int .i64 0, .bool false, .bool false, .bool false]) (by kernel_rfl) (by kernel_rfl) (by kernel_rfl) (by kernel_rfl) ?_
   refine RW.idxE (s := 6) (by kernel_rfl) (by kernel_rfl) rfl Tryd.underlying36 (by kernel_rfl) rfl rfl ⟨by omega, by omega⟩ (by kernel_rfl) ?_
   intro q13 q13e
   refine RW.stE H 1 rfl (vs := [.int .i64 (-77), .int .i64 0, .int .i64 0, .bool false, .bool false, .bool false]) (by rw [cC_len, hC2, q13e]; simp; omega) (by kernel_rfl) (by kernel_rfl) rfl rfl rfl rfl (by kernel_rfl) (by kernel_rfl) ?_
   clear H; intro _ H
   dsimp only [setL, delL] at H
   replace H : Lies G A F _ (.sl 39 5 u R.length (rowsV (csB wd B) (psB wd B) R) :: .at_ ((B.getD i default).1) (.row ⟨overL (cC C2) q13 [.int .i64 (-77), .int .i64 0, .int .i64 0, .bool false, .bool false, .bool false], 79, false⟩) :: .at_ ((B.getD i default).2) (.row ⟨(R.getD i default).P.map (Value.int .i64), 3, false⟩) :: (REs (B.drop (i + 1)) (R.drop (i + 1)) ++ L)) := H
   rw [show overL (cC C2) q13 [.int .i64 (-77), .int .i64 0, .int .i64 0, .bool false, .bool false, .bool false] = cC (overC C2 k [⟨-77, 0, 0, false, false, false⟩]) by rw [q13e, Int.toNat_natCast]; exact over_cells C2 k ⟨-77, 0, 0, false, false, false⟩] at H
   refine RW.nil ?_
   refine blkQ_normal ?_
   refine W.rg [(0, u), (2, .int .i64 ((i : Nat) : Int)), (3, .int .i64 ((k : Nat) : Int))] fun TA => ?_
   refine W.region ?_
   refine RW.v ?_
   refine RW.valE (v' := .int .i64 (((k : Nat) : Int) + 1)) (by kernel_rfl) (by kernel_rfl) rfl (congrArg (Value.int .i64) (wrap_in (by omega) (by omega))) (by kernel_rfl) ?_
   refine RW.v ?_
   refine RW.nil ?_
   exact ⟨rfl, mm2 - 1, by omega, k + 1, (overC C2 k [⟨-77, 0, 0, false, false, false⟩]), (by omega), ((overC_len (by simp; omega)).trans hC2), H, rfl, rfl, rfl⟩
  ·have hc7b := hc7
   have hc7 := of_decide_eq_false hc7
   refine W.exit _ ?_
   refine seqQ_exit ?_
   refine rndQ_exit ?_
   refine blkQ_here ?_
   refine W.seq (W.region ?_)
   refine RW.v ?_
   refine RW.nil ?_
   refine W.rg [(0, u), (2, .int .i64 ((i : Nat) : Int)), (4, .int .i64 0)] fun TA => ?_
   refine W.block ?_
   have hP0 := hW.2
   refine W.loop (fun mm3 ta σ => ∃ (k : Nat) (P2 : List Int), (mm3 + k = wd) ∧ (P2.length = wd) ∧ Lies G A F σ (.sl 39 5 u R.length (rowsV (csB wd B) (psB wd B) R) :: .at_ ((B.getD i default).1) (.row ⟨cC C2, 79, false⟩) :: .at_ ((B.getD i default).2) (.row ⟨P2.map (Value.int .i64), 3, false⟩) :: (REs (B.drop (i + 1)) (R.drop (i + 1)) ++ L)) ∧ ta 0 = u ∧ ta 2 = .int .i64 ((i : Nat) : Int) ∧ ta 4 = .int .i64 ((k : Nat) : Int)) wd ?_ ?_
   ·exact ⟨0, (R.getD i default).P, (by omega), hP0, H, rfl, rfl, rfl⟩
   clear H
   rintro mm3 ta _ ⟨k, P2, hm3, hP2, H, e0, e2, e4⟩
   refine W.rst [(0, u), (2, .int .i64 ((i : Nat) : Int)), (4, .int .i64 ((k : Nat) : Int))] ⟨e0, e2, e4, trivial⟩ fun TA => ?_
   clear e0 e2 e4
   refine W.seq ?_
   refine W.seq (W.region ?_)
   iterate 3 refine RW.v ?_
   refine RW.idxG H 0 rfl (by kernel_rfl) (by kernel_rfl) rfl Tryd.underlying27 (by kernel_rfl) rfl rfl ⟨by omega, by omega⟩ (by kernel_rfl) ?_
   intro b14 q15 r16 hF17 hE18
   rw [rowsB_ati (wd := wd) (j := i) hB (by omega)] at hE18
   refine RW.v ?_
   refine RW.loads 1 (by kernel_rfl) (by kernel_rfl) rfl rfl (hF17) (sub_take hE18 1 1 (by decide)) rfl (by kernel_rfl) ?_
   iterate 2 refine RW.v ?_
   refine RW.nil ?_
   refine W.rg [(0, u), (2, .int .i64 ((i : Nat) : Int)), (4, .int .i64 ((k : Nat) : Int)), (36, .bool (decide (((k : Nat) : Int) < ((wd : Nat) : Int))))] fun TA => ?_
   refine W.cond rfl (fun hc19 => ?_) (fun hc19 => ?_)
   ·have hc19b := hc19
    have hc19 := of_decide_eq_true hc19
    have hk : k < wd := by omega
    refine W.skip ?_
    refine W.seq ?_
    refine W.block ?_
    refine W.region ?_
    iterate 2 refine RW.v ?_
    refine RW.idxG H 0 rfl (by kernel_rfl) (by kernel_rfl) rfl Tryd.underlying27 (by kernel_rfl) rfl rfl ⟨by omega, by omega⟩ (by kernel_rfl) ?_
    intro b20 q21 r22 hF23 hE24
    rw [rowsB_ati (wd := wd) (j := i) hB (by omega)] at hE24
    refine RW.v ?_
    refine RW.loads 1 (by kernel_rfl) (by kernel_rfl) rfl rfl (hF23) (sub_take hE24 1 1 (by decide)) rfl (by kernel_rfl) ?_
    refine RW.v ?_
    refine RW.idxE (s := 1) (by kernel_rfl) (by kernel_rfl) rfl Tryd.underlying37 (by kernel_rfl) rfl rfl ⟨by omega, by omega⟩ (by kernel_rfl) ?_
    intro q25 q25e
    refine RW.stE H 2 rfl (vs := [.int .i64 (-77)]) (by rw [List.length_map, hP2, q25e]; simp; omega) (by kernel_rfl) (by kernel_rfl) rfl rfl rfl rfl (by kernel_rfl) (by kernel_rfl) ?_
    clear H; intro _ H
    dsimp only [setL, delL] at H
    replace H : Lies G A F _ (.sl 39 5 u R.length (rowsV (csB wd B) (psB wd B) R) :: .at_ ((B.getD i default).1) (.row ⟨cC C2, 79, false⟩) :: .at_ ((B.getD i default).2) (.row ⟨overL (P2.map (Value.int .i64)) q25 [.int .i64 (-77)], 3, false⟩) :: (REs (B.drop (i + 1)) (R.drop (i + 1)) ++ L)) := H
    rw [show overL (P2.map (Value.int .i64)) q25 [.int .i64 (-77)] = (overC P2 k [-77]).map (Value.int .i64) by rw [q25e, Int.toNat_natCast, Nat.mul_one]; exact overL_map1 P2 k (-77)] at H
    refine RW.nil ?_
    refine blkQ_normal ?_
    refine W.rg [(0, u), (2, .int .i64 ((i : Nat) : Int)), (4, .int .i64 ((k : Nat) : Int))] fun TA => ?_
    refine W.region ?_
    refine RW.v ?_
    refine RW.valE (v' := .int .i64 (((k : Nat) : Int) + 1)) (by kernel_rfl) (by kernel_rfl) rfl (congrArg (Value.int .i64) (wrap_in (by omega) (by omega))) (by kernel_rfl) ?_
    refine RW.v ?_
    refine RW.nil ?_
    exact ⟨rfl, mm3 - 1, by omega, k + 1, (overC P2 k [-77]), (by omega), ((overC_len (by simp; omega)).trans hP2), H, rfl, rfl, rfl⟩
   ·have hc19b := hc19
    have hc19 := of_decide_eq_false hc19
    refine W.exit _ ?_
    refine seqQ_exit ?_
    refine rndQ_exit ?_
    refine blkQ_here ?_
    refine blkQ_normal ?_
    refine W.region ?_
    refine RW.v ?_
    refine RW.valE (v' := .int .i64 (((i : Nat) : Int) + 1)) (by kernel_rfl) (by kernel_rfl) rfl (congrArg (Value.int .i64) (wrap_in (by omega) (by omega))) (by kernel_rfl) ?_
    refine RW.v ?_
    refine RW.nil ?_
    replace H := ((H.del 2).del 1)
    dsimp only [delL] at H
    exact ⟨rfl, mm - 1, by omega, i + 1, (by omega), H, rfl, rfl⟩
 ·have hc1b := hc1
  have hc1 := of_decide_eq_false hc1
  refine W.exit _ ?_
  refine seqQ_exit ?_
  refine rndQ_exit ?_
  rw [List.drop_eq_nil_of_le (show R.length ≤ i by omega), List.drop_eq_nil_of_le (show B.length ≤ i by omega)] at H
  replace H : Lies G A F _ (.sl 39 5 u R.length (rowsV (csB wd B) (psB wd B) R) :: L) := H
  refine blkQ_here ?_
  refine endG (by rfl) (by exact rfl) ?_
  exact (H.del 0)
set_option maxHeartbeats 4000000 in
theorem parts_wc (h1 : SlF F 9 v1 l.length (pC l)) (hl : l.length ≤ 1000000) (H : Lies G A F σ L) : WC G Tryd.prog 12 #[v1] σ fun v σ' => ∃ F', Le F F' ∧ SlF F' 9 v l.length (pC l) ∧ Lies G A F' σ' L := by
 refine WC.enter (fn := Tryd.f12) Tryd.func12 rfl ?_
 refine W.rg [(0, v1)] fun TA => ?_
 refine W.seq (W.region ?_)
 refine RW.v ?_
 refine RW.nil ?_
 refine W.rg [(0, v1)] fun TA => ?_
 refine W.seq (W.region ?_)
 refine RW.mkL H (x := .row ⟨[], 52, false⟩) (fm := fun b => .slice (some ⟨b, 0, none⟩) 0 0) (by kernel_rfl) (by kernel_rfl) (by kernel_rfl) (by kernel_rfl) ?_
 clear H; intro _ b1 _ H
 refine RW.v ?_
 rcases Nat.eq_zero_or_pos l.length with h0 | h0
 ·have hs0 : SlF F 9 v1 0 (pC l) := h0 ▸ h1
  refine RW.appN H (e := 52) (e2 := 52) hs0 (by kernel_rfl) (by kernel_rfl) rfl rfl rfl rfl rfl rfl (Nat.le_refl _) (by kernel_rfl) (by kernel_rfl) (by kernel_rfl) (by decide) (by kernel_rfl) ?_
  refine RW.v ?_
  refine RW.nil ?_
  refine W.ret ?_
  refine endG (by rfl) (by exact resL_tmp rfl) ?_
  obtain ⟨F', le, hq, H⟩ := H.freeze 0 rfl
  dsimp only [setL, delL] at H
  exact ⟨F', le, (pr_none h0 hq), H⟩
 ·refine RW.appS H (e := 52) (e2 := 52) h1 (by kernel_rfl) (by kernel_rfl) rfl rfl rfl rfl rfl rfl (H.get 0 rfl) rfl h0 (by kernel_rfl) (by kernel_rfl) (by kernel_rfl) (by decide) (by omega) (by kernel_rfl) ?_
  clear H; intro _ v2 H
  refine RW.v ?_
  refine RW.nil ?_
  replace H := (H.del 1)
  dsimp only [setL, delL] at H
  refine W.ret ?_
  refine endG (by rfl) (by exact resL_tmp rfl) ?_
  obtain ⟨F', le, hq, H⟩ := H.freezeSl 0 rfl
  rw [Nat.zero_add, List.nil_append] at hq
  dsimp only [setL, delL] at H
  exact ⟨F', le, hq, H⟩
set_option maxHeartbeats 4000000 in
theorem same_parts (h1 : SlF F 9 v1 l.length (pC l)) (h2 : SlF F 9 v2 l.length (pC l)) (hl : l.length ≤ 1000000) (H : Lies G A F σ L) : WC G Tryd.prog 19 #[v1, v2] σ fun v σ' => v = .bool true ∧ Lies G A F σ' L := by
 refine WC.enter (fn := Tryd.f19) Tryd.func19 rfl ?_
 refine W.rg [(0, v1), (1, v2)] fun TA => ?_
 refine W.seq (W.region ?_)
 refine RW.v ?_
 refine RW.nil ?_
 refine W.rg [(0, v1), (1, v2)] fun TA => ?_
 refine W.seq (W.region ?_)
 refine RW.v ?_
 refine RW.len (by kernel_rfl) (by kernel_rfl) rfl rfl rfl rfl (h1.len (e := 52) (by kernel_rfl)) (by kernel_rfl) ?_
 refine RW.v ?_
 refine RW.len (by kernel_rfl) (by kernel_rfl) rfl rfl rfl rfl (h2.len (e := 52) (by kernel_rfl)) (by kernel_rfl) ?_
 refine RW.valE (v' := .bool true) (by kernel_rfl) (by kernel_rfl) rfl (congrArg Value.bool (beq_iff_eq.2 (by rfl))) (by kernel_rfl) ?_
 refine RW.v ?_
 refine RW.nil ?_
 refine W.rg [(0, v1), (1, v2), (5, .bool true)] fun TA => ?_
 refine W.seq ?_
 refine W.seq (W.region ?_)
 refine RW.v ?_
 refine RW.nil ?_
 refine W.rg [(0, v1), (1, v2), (5, .bool true), (6, .int .i64 0)] fun TA => ?_
 refine W.block ?_
 refine W.loop (fun mm ta σ => ∃ (i : Nat), (mm + i = l.length) ∧ Lies G A F σ ((L)) ∧ ta 0 = v1 ∧ ta 1 = v2 ∧ ta 5 = .bool true ∧ ta 6 = .int .i64 ((i : Nat) : Int)) l.length ?_ ?_
 ·exact ⟨0, (by omega), H, rfl, rfl, rfl, rfl⟩
 clear H
 rintro mm ta _ ⟨i, hm, H, e0, e1, e5, e6⟩
 refine W.rst [(0, v1), (1, v2), (5, .bool true), (6, .int .i64 ((i : Nat) : Int))] ⟨e0, e1, e5, e6, trivial⟩ fun TA => ?_
 clear e0 e1 e5 e6
 refine W.seq ?_
 refine W.seq (W.region ?_)
 iterate 2 refine RW.v ?_
 iterate 2 refine RW.w ?_
 refine RW.len (by rfl) (by kernel_rfl) rfl rfl rfl rfl (h1.len (e := 52) (by kernel_rfl)) (by kernel_rfl) ?_
 refine RW.w ?_
 refine RW.v ?_
 refine RW.nil ?_
 refine W.rg [(0, v1), (1, v2), (5, .bool true), (6, .int .i64 ((i : Nat) : Int)), (18, .bool (decide (((i : Nat) : Int) < (l.length : Int))))] fun TA => ?_
 refine W.cond rfl (fun hc1 => ?_) (fun hc1 => ?_)
 ·have hc1b := hc1
  have hc1 := of_decide_eq_true hc1
  refine W.skip ?_
  refine W.seq ?_
  refine W.block ?_
  refine W.drawn (by kernel_rfl) (by kernel_rfl) H.gn ?_
  have H2 := H
  iterate 2 refine RW.v ?_
  refine RW.idxF h1 (by kernel_rfl) (by kernel_rfl) rfl Tryd.underlying22 (by kernel_rfl) rfl rfl ⟨by omega, by omega⟩ (by kernel_rfl) ?_
  intro b3 q4 r5 hF6 hE7
  rw [pC_ati (l := l) (j := i) (by omega)] at hE7
  refine RW.loads 9 (by kernel_rfl) (by kernel_rfl) rfl rfl (H2.old _ _ hF6) hE7 rfl (by kernel_rfl) ?_
  iterate 2 refine RW.v ?_
  refine RW.idxF h2 (by kernel_rfl) (by kernel_rfl) rfl Tryd.underlying22 (by kernel_rfl) rfl rfl ⟨by omega, by omega⟩ (by kernel_rfl) ?_
  intro b8 q9 r10 hF11 hE12
  rw [pC_ati (l := l) (j := i) (by omega)] at hE12
  refine RW.loads 9 (by kernel_rfl) (by kernel_rfl) rfl rfl (H2.old _ _ hF11) hE12 rfl (by kernel_rfl) ?_
  refine RW.vop (v := .bool true) (by kernel_rfl) (by kernel_rfl) (vop_eqS (b := true) (r := true) rfl (.inl ⟨rfl, rfl⟩) rfl rfl rfl rfl (by kernel_rfl) (fun w => eqPart _ _ _ _ _ _ _ _ _ w)) (by kernel_rfl) ?_
  refine RW.v ?_
  refine RW.nil ?_
  refine ⟨⟨by kernel_rfl, ⟨trivial, trivial, trivial, dyn_row (H2.old _ _ hF6) (H2.old _ _ hF6) ⟨nB, nB, nB, nB, nB, nB, nB, nB, nB, nB, trivial⟩, trivial, trivial, trivial, dyn_row (H2.old _ _ hF11) (H2.old _ _ hF11) ⟨nB, nB, nB, nB, nB, nB, nB, nB, nB, nB, trivial⟩, trivial, trivial, trivial⟩⟩, ?_⟩
  replace H := H2
  clear H2
  refine blkQ_normal ?_
  refine W.rg [(0, v1), (1, v2), (5, .bool true), (6, .int .i64 ((i : Nat) : Int))] fun TA => ?_
  refine W.region ?_
  refine RW.v ?_
  refine RW.valE (v' := .int .i64 (((i : Nat) : Int) + 1)) (by kernel_rfl) (by kernel_rfl) rfl (congrArg (Value.int .i64) (wrap_in (by omega) (by omega))) (by kernel_rfl) ?_
  refine RW.v ?_
  refine RW.nil ?_
  exact ⟨rfl, mm - 1, by omega, i + 1, (by omega), H, rfl, rfl, rfl, rfl⟩
 ·have hc1b := hc1
  have hc1 := of_decide_eq_false hc1
  refine W.exit _ ?_
  refine seqQ_exit ?_
  refine rndQ_exit ?_
  refine blkQ_here ?_
  refine W.seq (W.region ?_)
  iterate 2 refine RW.v ?_
  refine RW.nil ?_
  refine W.ret ?_
  refine endG (by rfl) (by exact resL_tmp rfl) ?_
  exact ⟨rfl, H⟩
set_option maxHeartbeats 8000000 in
theorem r_rows_no (he : errM l fr to_ wd tab most ≠ 0) (h1 : SlF F 9 v1 l.length (pC l)) (hl : l.length ≤ 1000000) (hsm : ∀ x ∈ l, x.s.length ≤ 1000000) (H : Lies G A F σ L) :
  WC G Tryd.prog 14 #[v1, .int .i64 fr, .int .i64 to_, .int .i64 wd, .int .i64 tab, .bool wrap, .int .i64 most] σ fun v σ' => v = .tuple #[.slice none 0 0, .int .i64 (errM l fr to_ wd tab most)] ∧ Lies G A F σ' L := by
 refine WC.enter (fn := Tryd.f14) Tryd.func14 rfl ?_
 refine W.rg [(0, v1), (1, .int .i64 fr), (2, .int .i64 to_), (3, .int .i64 wd), (4, .int .i64 tab), (5, .bool wrap), (6, .int .i64 most)] fun TA => ?_
 refine W.seq (W.region ?_)
 iterate 2 refine RW.v ?_
 refine RW.nil ?_
 refine W.rg [(0, v1), (1, .int .i64 fr), (2, .int .i64 to_), (3, .int .i64 wd), (4, .int .i64 tab), (5, .bool wrap), (6, .int .i64 most)] fun TA => ?_
 refine W.seq ?_
 refine W.seq (W.region ?_)
 iterate 3 refine RW.v ?_
 refine RW.cl ?_
 refine ((r_check (l := l) (fr := fr) (to_ := to_) h1 hl hsm H).mono ?_)
 clear H
 rintro _ _ ⟨rfl, H⟩
 refine RW.v ?_
 refine RW.nil ?_
 refine W.rg [(0, v1), (2, .int .i64 to_), (3, .int .i64 wd), (4, .int .i64 tab), (5, .bool wrap), (6, .int .i64 most), (16, .int .i64 (checkM l fr to_))] fun TA => ?_
 refine W.seq (W.region ?_)
 iterate 2 refine RW.v ?_
 refine RW.nil ?_
 refine W.rg [(0, v1), (2, .int .i64 to_), (3, .int .i64 wd), (4, .int .i64 tab), (5, .bool wrap), (6, .int .i64 most), (16, .int .i64 (checkM l fr to_)), (34, .bool ((checkM l fr to_) != 0))] fun TA => ?_
 refine W.cond rfl (fun hc1 => ?_) (fun hc1 => ?_)
 ·have hc1b := hc1
  have hc1 := bne_iff_ne.1 hc1
  refine W.seq (W.region ?_)
  iterate 3 refine RW.v ?_
  refine RW.nil ?_
  refine W.ret ?_
  refine seqQ_ret ?_
  refine endG (by rfl) (by exact resL_tmp (by exact resL_tmp rfl)) ?_
  have ee : errM l fr to_ wd tab most = (checkM l fr to_) := by unfold errM; rw [if_pos (by omega)]
  rw [ee]
  exact ⟨rfl, H⟩
 ·have hc1b := hc1
  have hc1 := (bne_eq_false_iff_eq.1) hc1
  refine W.skip ?_
  refine W.seq ?_
  refine W.seq (W.region ?_)
  iterate 3 refine RW.v ?_
  refine RW.both _ _ rfl rfl rfl (fun hc2 => ?_) (fun hc2 => ?_)
  ·have hc2b := hc2
   have hc2 := of_decide_eq_true hc2
   iterate 2 refine RW.s ?_
   iterate 2 refine RW.v ?_
   iterate 2 refine RW.s ?_
   iterate 2 refine RW.v ?_
   iterate 2 refine RW.s ?_
   iterate 2 refine RW.v ?_
   iterate 2 refine RW.s ?_
   iterate 2 refine RW.v ?_
   iterate 2 refine RW.s ?_
   refine RW.v ?_
   refine RW.nil ?_
   refine W.c1 ?_
   refine W.seq (W.region ?_)
   iterate 2 refine RW.v ?_
   refine RW.nil ?_
   refine W.ret ?_
   refine seqQ_ret ?_
   refine endG (by rfl) (by exact resL_tmp (by exact resL_tmp rfl)) ?_
   have ee : errM l fr to_ wd tab most = 3 := by unfold errM; rw [if_neg (by omega), if_pos (by omega)]
   rw [ee]
   exact ⟨rfl, H⟩
  ·have hc2b := hc2
   have hc2 := of_decide_eq_false hc2
   iterate 2 refine RW.w ?_
   iterate 2 refine RW.v ?_
   refine RW.both _ _ rfl rfl rfl (fun hc3 => ?_) (fun hc3 => ?_)
   ·have hc3b := hc3
    have hc3 := of_decide_eq_true hc3
    iterate 2 refine RW.s ?_
    iterate 2 refine RW.v ?_
    iterate 2 refine RW.s ?_
    iterate 2 refine RW.v ?_
    iterate 2 refine RW.s ?_
    iterate 2 refine RW.v ?_
    iterate 2 refine RW.s ?_
    refine RW.v ?_
    refine RW.nil ?_
    refine W.c1 ?_
    refine W.seq (W.region ?_)
    iterate 2 refine RW.v ?_
    refine RW.nil ?_
    refine W.ret ?_
    refine seqQ_ret ?_
    refine endG (by rfl) (by exact resL_tmp (by exact resL_tmp rfl)) ?_
    have ee : errM l fr to_ wd tab most = 3 := by unfold errM; rw [if_neg (by omega), if_pos (by omega)]
    rw [ee]
    exact ⟨rfl, H⟩
   ·have hc3b := hc3
    have hc3 := of_decide_eq_false hc3
    iterate 2 refine RW.w ?_
    iterate 2 refine RW.v ?_
    refine RW.both _ _ rfl rfl rfl (fun hc4 => ?_) (fun hc4 => ?_)
    ·have hc4b := hc4
     have hc4 := of_decide_eq_true hc4
     iterate 2 refine RW.s ?_
     iterate 2 refine RW.v ?_
     iterate 2 refine RW.s ?_
     iterate 2 refine RW.v ?_
     iterate 2 refine RW.s ?_
     refine RW.v ?_
     refine RW.nil ?_
     refine W.c1 ?_
     refine W.seq (W.region ?_)
     iterate 2 refine RW.v ?_
     refine RW.nil ?_
     refine W.ret ?_
     refine seqQ_ret ?_
     refine endG (by rfl) (by exact resL_tmp (by exact resL_tmp rfl)) ?_
     have ee : errM l fr to_ wd tab most = 3 := by unfold errM; rw [if_neg (by omega), if_pos (by omega)]
     rw [ee]
     exact ⟨rfl, H⟩
    ·have hc4b := hc4
     have hc4 := of_decide_eq_false hc4
     iterate 2 refine RW.w ?_
     iterate 2 refine RW.v ?_
     refine RW.both _ _ rfl rfl rfl (fun hc5 => ?_) (fun hc5 => ?_)
     ·have hc5b := hc5
      have hc5 := of_decide_eq_true hc5
      iterate 2 refine RW.s ?_
      iterate 2 refine RW.v ?_
      iterate 2 refine RW.s ?_
      refine RW.v ?_
      refine RW.nil ?_
      refine W.c1 ?_
      refine W.seq (W.region ?_)
      iterate 2 refine RW.v ?_
      refine RW.nil ?_
      refine W.ret ?_
      refine seqQ_ret ?_
      refine endG (by rfl) (by exact resL_tmp (by exact resL_tmp rfl)) ?_
      have ee : errM l fr to_ wd tab most = 3 := by unfold errM; rw [if_neg (by omega), if_pos (by omega)]
      rw [ee]
      exact ⟨rfl, H⟩
     ·have hc5b := hc5
      have hc5 := of_decide_eq_false hc5
      iterate 2 refine RW.w ?_
      iterate 2 refine RW.v ?_
      refine RW.both _ _ rfl rfl rfl (fun hc6 => ?_) (fun hc6 => ?_)
      ·have hc6b := hc6
       have hc6 := of_decide_eq_true hc6
       iterate 2 refine RW.s ?_
       refine RW.v ?_
       refine RW.nil ?_
       refine W.c1 ?_
       refine W.seq (W.region ?_)
       iterate 2 refine RW.v ?_
       refine RW.nil ?_
       refine W.ret ?_
       refine seqQ_ret ?_
       refine endG (by rfl) (by exact resL_tmp (by exact resL_tmp rfl)) ?_
       have ee : errM l fr to_ wd tab most = 3 := by unfold errM; rw [if_neg (by omega), if_pos (by omega)]
       rw [ee]
       exact ⟨rfl, H⟩
      ·have hc6b := hc6
       have hc6 := of_decide_eq_false hc6
       iterate 2 refine RW.w ?_
       refine RW.v ?_
       refine RW.nil ?_
       refine W.rg [(0, v1), (2, .int .i64 to_), (3, .int .i64 wd), (4, .int .i64 tab), (5, .bool wrap), (6, .int .i64 most), (57, .bool (decide (most > 10000)))] fun TA => ?_
       refine W.cond rfl (fun hc7 => ?_) (fun hc7 => ?_)
       ·have hc7b := hc7
        have hc7 := of_decide_eq_true hc7
        refine W.seq (W.region ?_)
        iterate 2 refine RW.v ?_
        refine RW.nil ?_
        refine W.ret ?_
        refine seqQ_ret ?_
        refine endG (by rfl) (by exact resL_tmp (by exact resL_tmp rfl)) ?_
        have ee : errM l fr to_ wd tab most = 3 := by unfold errM; rw [if_neg (by omega), if_pos (by omega)]
        rw [ee]
        exact ⟨rfl, H⟩
       ·have hc7b := hc7
        have hc7 := of_decide_eq_false hc7
        exact absurd (by unfold errM; rw [if_neg (by omega), if_neg (by omega)]) he
theorem r_rows (h1 : SlF F 9 v1 l.length (pC l)) (hl : l.length ≤ 1000) (hsm : ∀ x ∈ l, x.s.length ≤ 1000) (hch : (charsM l).length ≤ 7000) (H : Lies G A F σ L) :
  WC G Tryd.prog 14 #[v1, .int .i64 fr, .int .i64 to_, .int .i64 wd, .int .i64 tab, .bool wrap, .int .i64 most] σ fun v σ' => ∃ F' u c2 p2, Le F F' ∧ v = .tuple #[u, .int .i64 (errM l fr to_ wd tab most)] ∧ SlF F' 5 u (rowsA l fr to_ wd tab wrap most).length (rowsV c2 p2 (rowsA l fr to_ wd tab wrap most)) ∧ AllRow F' c2 p2 (rowsA l fr to_ wd tab wrap most) ∧ Lies G A F' σ' L := by
 by_cases he : errM l fr to_ wd tab most = 0
 ·obtain ⟨g1, g2, g3, g4, g5, g6, g7⟩ := errM_zero.1 he
  rw [rowsA_ok he, he]
  obtain ⟨w, rfl⟩ : ∃ w : Nat, wd = (w : Int) := ⟨wd.toNat, by omega⟩
  obtain ⟨t, rfl⟩ : ∃ t : Nat, tab = (t : Int) := ⟨tab.toNat, by omega⟩
  obtain ⟨m, rfl⟩ : ∃ m : Nat, most = (m : Int) := ⟨most.toNat, by omega⟩
  simp only [Int.toNat_natCast]
  have h := r_rows_go (T := finR to_ w wrap (runR w (limM w m wrap) wrap (unitsM t 0 (charsM l)) ⟨[], []⟩)) (wrap := wrap) (show 4 ≤ w by omega) (by omega) (show 1 ≤ t by omega) (by omega) (show m ≤ 10000 by omega) h1 hl hsm hch g1 rfl H
  rw [ref_rows (by omega) (goodU_units _ _ _)] at h
  exact h
 ·rw [rowsA_err he]
  refine (r_rows_no he h1 (by omega) (fun x hx => Nat.le_trans (hsm x hx) (by decide)) H).mono ?_
  rintro v σ' ⟨rfl, H⟩
  exact ⟨F, _, [], [], fun _ _ h => h, rfl, .nil _ rfl, AllRow.nil, H⟩
theorem Rows_en (hU : U8F F) (h16 : 16 ≤ G) (h1 : SlF F 9 v1 l.length (pC l)) (hl : l.length ≤ 1000) (hsm : ∀ x ∈ l, x.s.length ≤ 1000) (H : Lies G A F σ L) :
  WC G Tryd.prog 13 #[v1, .int .i64 fr, .int .i64 to_, .int .i64 wd, .int .i64 tab, .bool wrap, .int .i64 most] σ fun v σ' => ∃ F' u B, Le F F' ∧ v = .tuple #[u, .int .i64 (errM l fr to_ wd tab most)] ∧ B.length = (rowsA l fr to_ wd tab wrap most).length ∧ Wid wd.toNat (rowsA l fr to_ wd tab wrap most) ∧ Lies G A F' σ' (.sl 39 5 u (rowsA l fr to_ wd tab wrap most).length (rowsV (csB wd.toNat B) (psB wd.toNat B) (rowsA l fr to_ wd tab wrap most)) :: (REs B (rowsA l fr to_ wd tab wrap most) ++ L)) := by
 by_cases he : errM l fr to_ wd tab most = 0
 ·obtain ⟨g1, g2, g3, g4, g5, g6, g7⟩ := errM_zero.1 he
  rw [rowsA_ok he, he]
  obtain ⟨w, rfl⟩ : ∃ w : Nat, wd = (w : Int) := ⟨wd.toNat, by omega⟩
  obtain ⟨t, rfl⟩ : ∃ t : Nat, tab = (t : Int) := ⟨tab.toNat, by omega⟩
  obtain ⟨m, rfl⟩ : ∃ m : Nat, most = (m : Int) := ⟨most.toNat, by omega⟩
  simp only [Int.toNat_natCast]
  have hok := lok_all (to_ := to_) (wrap := wrap) (most := m) (show 1 ≤ w by omega) (unitsM t 0 (charsM l))
  refine (Rows_go (by omega) (by omega) (by omega) (by omega) (by omega) hU h16 h1 hl hsm g1 rfl H).mono ?_
  rintro v σ' ⟨F1, u, B, k1, rfl, hB, H⟩
  refine ⟨F1, u, B, k1, rfl, hB.trans (tosX_len _ _).symm, ?_, ?_⟩
  ·intro r hr
   obtain ⟨j, hj, e⟩ := List.mem_iff_getElem.1 hr
   have hj2 : j < (allS to_ w wrap m (unitsM t 0 (charsM l))).R.length := by unfold rowsM at hj; rw [tosX_len] at hj; exact hj
   have e2 : r = (rowsM to_ w wrap m (unitsM t 0 (charsM l))).getD j default := by rw [List.getD_eq_getElem?_getD, List.getElem?_eq_getElem hj, e]; rfl
   have e3 := tosX_getD (R := (allS to_ w wrap m (unitsM t 0 (charsM l))).R) (x := (allS to_ w wrap m (unitsM t 0 (charsM l))).x) j
   have := hok.2.1 _ (get_mem hj2)
   rw [e2]
   show (RowV.C ((tosX _ _).getD j default)).length = w ∧ (RowV.P ((tosX _ _).getD j default)).length = w
   rw [e3.1, e3.2]
   exact this
  ·unfold rowsM
   rw [tosX_len, REs_tos]
   exact H
 ·rw [rowsA_err he]
  refine (Rows_no he hU h16 h1 (by omega) (fun x hx => Nat.le_trans (hsm x hx) (by decide)) H).mono ?_
  rintro v σ' ⟨rfl, H⟩
  exact ⟨F, .slice none 0 0, [], fun _ _ h => h, rfl, rfl, fun r hr => by simp at hr, H.nilSl 39 5⟩
end
end Go.Proofs.YtmmapljeeccdnaaDoor
namespace Go.Proofs.YtmmapljeeccdnaaDoor
set_option maxRecDepth 100000
open Go.Lib
set_option maxHeartbeats 16000000 in
theorem rows_law {G : Nat} {σ0 : Mem} {v1 : Value} {l : List Prt} {fr to_ wd tab most : Int} {wrap : Bool} (hG : G ≤ σ0.next) (hno : σ0.abs = Abs.no) (h16 : 16 ≤ G) (hU : U8F σ0.get) (CK : ∀ σ', (∀ b y, σ0.get b = some y → σ'.get b = some y) → SCall G Tryd.prog 11 #[] σ' (.bool true) σ') (h1 : SlF σ0.get 9 v1 l.length (pC l)) :
  WC G Tryd.prog 3 #[v1, .int .i64 fr, .int .i64 to_, .int .i64 wd, .int .i64 tab, .bool wrap, .int .i64 most] σ0 fun v _ => v = .bool true := by
 have H := Lies.start hG hno
 generalize σ0.get = F0 at H h1 hU CK
 obtain ⟨F, hF⟩ : ∃ F, F = F0 := ⟨_, rfl⟩
 have le0 : Le F0 F := fun b y h => hF ▸ h
 rw [← hF] at H
 clear hF
 refine WC.enter (fn := Tryd.f3) Tryd.func3 rfl ?_
 refine W.rg [(0, v1), (1, .int .i64 fr), (2, .int .i64 to_), (3, .int .i64 wd), (4, .int .i64 tab), (5, .bool wrap), (6, .int .i64 most)] fun TA => ?_
 refine W.seq (W.region ?_)
 refine RW.v ?_
 refine RW.nil ?_
 refine W.rg [(0, v1), (1, .int .i64 fr), (2, .int .i64 to_), (3, .int .i64 wd), (4, .int .i64 tab), (5, .bool wrap), (6, .int .i64 most)] fun TA => ?_
 refine W.seq ?_
 refine W.seq (W.region ?_)
 refine RW.v ?_
 refine RW.cl ?_
 refine ((long_wc (h1.le le0) H).mono ?_)
 clear H
 rintro _ _ ⟨lb1, rfl, hlb1, H⟩
 refine RW.v ?_
 refine RW.both _ _ rfl rfl rfl (fun hc2 => ?_) (fun hc2 => ?_)
 ·have hc2b := hc2
  iterate 4 refine RW.s ?_
  refine RW.v ?_
  refine RW.nil ?_
  refine W.c1 ?_
  refine W.seq (W.region ?_)
  refine RW.cl ?_
  refine ⟨_, _, (CK _ fun b y h => H.old _ _ (le0 b y h)), ?_⟩
  refine RW.v ?_
  refine RW.nil ?_
  refine W.ret ?_
  refine seqQ_ret ?_
  refine endG (by rfl) (by exact resL_tmp rfl) ?_
  exact rfl
 ·have hc2b := hc2
  obtain ⟨hl, hsz⟩ := hlb1 hc2b
  have hsm : ∀ x ∈ l, x.s.length ≤ 1000 := prts_all fun j hj => by have := hsz j hj; omega
  have hch : (charsM l).length ≤ 7000 := by have := charsM_len2 (m := 200) (l := l) (prts_all fun j hj => hsz j hj); omega
  iterate 3 refine RW.w ?_
  refine RW.cl (hw := by rfl) ?_
  refine ((vast_wc (by omega) (h1.le le0) H).mono ?_)
  clear H
  rintro _ _ ⟨vb3, rfl, H⟩
  refine RW.v ?_
  refine RW.nil ?_
  refine W.rg [(0, v1), (1, .int .i64 fr), (2, .int .i64 to_), (3, .int .i64 wd), (4, .int .i64 tab), (5, .bool wrap), (6, .int .i64 most), (30, .bool vb3)] fun TA => ?_
  refine W.cond rfl (fun hc4 => ?_) (fun hc4 => ?_)
  ·have hc4b := hc4
   refine W.seq (W.region ?_)
   refine RW.cl ?_
   refine ⟨_, _, (CK _ fun b y h => H.old _ _ (le0 b y h)), ?_⟩
   refine RW.v ?_
   refine RW.nil ?_
   refine W.ret ?_
   refine seqQ_ret ?_
   refine endG (by rfl) (by exact resL_tmp rfl) ?_
   exact rfl
  ·have hc4b := hc4
   refine W.skip ?_
   refine W.seq (W.region ?_)
   refine RW.v ?_
   refine RW.cl ?_
   refine ((parts_wc (h1.le le0) (by omega) H).mono ?_)
   clear H
   rintro iv _ ⟨F, le, hin, H⟩
   replace le0 := fun b y h => le b y (le0 b y h)
   refine RW.v ?_
   refine RW.nil ?_
   refine W.rg [(0, v1), (1, .int .i64 fr), (2, .int .i64 to_), (3, .int .i64 wd), (4, .int .i64 tab), (5, .bool wrap), (6, .int .i64 most), (15, iv)] fun TA => ?_
   refine W.seq (W.region ?_)
   iterate 7 refine RW.v ?_
   refine RW.cl ?_
   refine ((Rows_en (hU.le le0) h16 hin (by omega) hsm H).mono ?_)
   clear H
   rintro _ _ ⟨F, u1, B1, le, rfl, hB1, hW1, H⟩
   replace le0 := fun b y h => le b y (le0 b y h)
   replace hin := hin.le le
   obtain ⟨RA, hRA⟩ : ∃ RA, RA = rowsA l fr to_ wd tab wrap most := ⟨_, rfl⟩
   rw [← hRA] at hB1 hW1 H
   have hn : RA.length ≤ 10000 := hRA ▸ rowsA_len
   have hw : ∀ r ∈ RA, r.C.length ≤ 1000 ∧ r.P.length ≤ 1000 := hRA ▸ rowsA_wid
   obtain ⟨E, hE⟩ : ∃ E, E = errM l fr to_ wd tab most := ⟨_, rfl⟩
   rw [← hE]
   iterate 5 refine RW.v ?_
   refine RW.nil ?_
   refine W.rg [(0, v1), (1, .int .i64 fr), (2, .int .i64 to_), (3, .int .i64 wd), (4, .int .i64 tab), (5, .bool wrap), (6, .int .i64 most), (15, iv), (16, u1), (17, .int .i64 E)] fun TA => ?_
   refine W.seq (W.region ?_)
   iterate 7 refine RW.v ?_
   refine RW.cl ?_
   refine ((r_rows (h1.le le0) (by omega) hsm hch H).mono ?_)
   clear H
   rintro _ _ ⟨F, u2, c2, p2, le, rfl, hv2, al2, H⟩
   replace le0 := fun b y h => le b y (le0 b y h)
   replace hin := hin.le le
   rw [← hRA] at hv2 al2
   rw [← hE]
   iterate 5 refine RW.v ?_
   refine RW.nil ?_
   refine W.rg [(0, v1), (1, .int .i64 fr), (2, .int .i64 to_), (3, .int .i64 wd), (4, .int .i64 tab), (5, .bool wrap), (6, .int .i64 most), (15, iv), (16, u1), (17, .int .i64 E), (18, u2), (19, .int .i64 E)] fun TA => ?_
   refine W.seq (W.region ?_)
   iterate 2 refine RW.v ?_
   obtain ⟨F3, le3, hv1, al1, H3, back⟩ := RE_fz hB1 hW1 H
   refine RW.cl ?_
   refine ((same_rows hv1 al1 (hv2.le le3) (al2.le le3) (by omega) (fun r hr => ⟨by have := (hw r hr).1; omega, by have := (hw r hr).2; omega⟩) H3).mono ?_)
   clear H
   rintro _ _ ⟨rfl, H3⟩
   have H := back _ H3
   clear back H3
   refine RW.v ?_
   iterate 2 refine RW.w ?_
   refine RW.valE (v' := .bool true) (by rfl) (by kernel_rfl) rfl (congrArg Value.bool (beq_iff_eq.2 (by rfl))) (by kernel_rfl) ?_
   iterate 2 refine RW.v ?_
   iterate 3 refine RW.w ?_
   refine RW.cl (hw := by rfl) ?_
   refine ((Check_wc (l := l) (fr := fr) (to_ := to_) (hU.le le0) h16 hin (by omega) (fun x hx => Nat.le_trans (hsm x hx) (by decide)) H).mono ?_)
   clear H
   rintro _ _ ⟨rfl, H⟩
   iterate 3 refine RW.w ?_
   refine RW.cl (hw := by rfl) ?_
   refine ((r_check (l := l) (fr := fr) (to_ := to_) (h1.le le0) (by omega) (fun x hx => Nat.le_trans (hsm x hx) (by decide)) H).mono ?_)
   clear H
   rintro _ _ ⟨rfl, H⟩
   refine RW.valE (v' := .bool true) (by rfl) (by kernel_rfl) rfl (congrArg Value.bool (beq_iff_eq.2 (by rfl))) (by kernel_rfl) ?_
   iterate 2 refine RW.v ?_
   refine RW.nil ?_
   refine W.rg [(0, v1), (1, .int .i64 fr), (2, .int .i64 to_), (3, .int .i64 wd), (4, .int .i64 tab), (5, .bool wrap), (6, .int .i64 most), (15, iv), (16, u1), (18, u2), (20, .bool true)] fun TA => ?_
   refine W.seq (W.region ?_)
   refine RW.v ?_
   refine RW.cl ?_
   refine ((over_wc hB1 hW1 (fun r hr => by have := (hw r hr).1; omega) (by omega) H).mono ?_)
   clear H
   intro _ _ H
   refine RW.nil ?_
   refine W.rg [(0, v1), (1, .int .i64 fr), (2, .int .i64 to_), (3, .int .i64 wd), (4, .int .i64 tab), (5, .bool wrap), (6, .int .i64 most), (15, iv), (18, u2), (20, .bool true)] fun TA => ?_
   refine W.seq (W.region ?_)
   iterate 7 refine RW.v ?_
   refine RW.cl ?_
   refine ((Rows_fz (hU.le le0) h16 hin (by omega) hsm H).mono ?_)
   clear H
   rintro _ _ ⟨F, u3, ds3, qs3, le, rfl, hv3, al3, H⟩
   replace le0 := fun b y h => le b y (le0 b y h)
   replace hin := hin.le le
   replace hv2 := hv2.le le
   replace al2 := al2.le le
   rw [← hRA] at hv3 al3
   rw [← hE]
   iterate 5 refine RW.v ?_
   refine RW.nil ?_
   refine W.rg [(0, v1), (15, iv), (18, u2), (20, .bool true), (21, u3)] fun TA => ?_
   refine W.seq (W.region ?_)
   iterate 2 refine RW.v ?_
   iterate 2 refine RW.w ?_
   refine RW.cl (hw := by rfl) ?_
   refine ((same_rows hv3.slf al3 hv2 al2 (by omega) (fun r hr => ⟨by have := (hw r hr).1; omega, by have := (hw r hr).2; omega⟩) H).mono ?_)
   clear H
   rintro _ _ ⟨rfl, H⟩
   iterate 2 refine RW.v ?_
   iterate 2 refine RW.w ?_
   refine RW.cl (hw := by rfl) ?_
   refine ((same_parts hin (h1.le le0) (by omega) H).mono ?_)
   clear H
   rintro _ _ ⟨rfl, H⟩
   iterate 2 refine RW.v ?_
   refine RW.cl (hw := by rfl) ?_
   refine ⟨_, _, (CK _ fun b y h => H.old _ _ (le0 b y h)), ?_⟩
   iterate 2 refine RW.v ?_
   refine RW.nil ?_
   refine W.ret ?_
   refine endG (by rfl) (by exact resL_tmp rfl) ?_
   exact rfl
end Go.Proofs.YtmmapljeeccdnaaDoor
