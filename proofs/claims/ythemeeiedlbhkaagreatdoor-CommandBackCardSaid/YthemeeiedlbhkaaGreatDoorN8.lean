/-
 CommandSpecs in the second memory. Conditions: none.
 CommandBack in the second memory. Conditions: none.
-/
import Derived.Test.YthemeeiedlbhkaaGreatDoorN7
import Derived.Test.YthemeeiedlbhkaaGreatDoorNei
namespace Go.Proofs.YthemeeiedlbhkaaGreatDoor
open Go.Lib
set_option maxRecDepth 100000
theorem needsG_len : ∀ (k : Nat) (a : Int) (r : List Int), (needsG k a r).1.length ≤ r.length
 | k, a, [] => by cases k <;> exact Nat.le_refl _
 | 0, a, c :: r => Nat.zero_le _
 | k + 1, a, c :: r => by
  unfold needsG
  split
  ·have := needsG_len k (a + ((lineP r).length : Int) + 2) (r.drop ((lineP r).length + 1))
   rw [List.length_drop] at this
   show _ + 1 ≤ r.length + 1
   omega
  ·exact Nat.zero_le _
theorem parse_len (s : List UInt8) : (parseM s).1.n.length ≤ s.length := by
 unfold parseM
 by_cases hv : validD s = false
 ·rw [if_pos hv]; exact Nat.zero_le _
 ·rw [if_neg hv]
  split
  ·exact Nat.zero_le _
  ·refine Nat.le_trans (needsG_len _ _ _) ?_
   have hv : validD s = true := by simpa using hv
   have := rest_len hv
   have := enc_ge (restR s)
   omega
end Go.Proofs.YthemeeiedlbhkaaGreatDoor
namespace Go.Proofs.YthemeeiedlbhkaaGreatDoor
open Go.Lib
set_option maxRecDepth 100000
theorem more_len2 {B : Nat} : ∀ {l : List Need}, (∀ n ∈ l, n.2.length ≤ B) → (moreN l).length ≤ l.length * (B + 5)
 | [], _ => Nat.zero_le _
 | n :: l, h => by
  have ih := more_len2 (l := l) fun m hm => h m (List.mem_cons_of_mem _ hm)
  have h1 := h n (List.mem_cons_self ..)
  have h2 := (enc_len n.1).2
  have e : (moreN (n :: l)).length = 1 + ((encodeRune n.1).length + n.2.length) + (moreN l).length := by
   show (10 :: (encodeRune n.1 ++ n.2) ++ moreN l).length = _
   rw [List.length_append, List.length_cons, List.length_append]
   omega
  rw [e, List.length_cons, Nat.succ_mul]
  omega
theorem join_len {B : Nat} {l : List Need} (h : ∀ n ∈ l, n.2.length ≤ B) : (joinN l).length ≤ l.length * (B + 5) := by
 cases l with
 | nil => exact Nat.zero_le _
 | cons n l =>
  have h0 := more_len2 h
  have e : (moreN (n :: l)).length = 1 + (joinN (n :: l)).length := by
   show (10 :: lineN n ++ moreN l).length = 1 + (lineN n ++ moreN l).length
   rw [List.length_append, List.length_cons, List.length_append]
   omega
  omega
theorem more_mem {n : Need} : ∀ {l : List Need}, n ∈ l → n.2.length ≤ (moreN l).length
 | m :: l, h => by
  have e : (moreN (m :: l)).length = 1 + ((encodeRune m.1).length + m.2.length) + (moreN l).length := by
   show (10 :: (encodeRune m.1 ++ m.2) ++ moreN l).length = _
   rw [List.length_append, List.length_cons, List.length_append]
   omega
  rcases List.mem_cons.1 h with rfl | h
  ·omega
  ·have := more_mem h
   omega
theorem join_mem {n : Need} {l : List Need} (h : n ∈ l) : n.2.length ≤ (joinN l).length + 0 := by
 cases l with
 | nil => cases h
 | cons m l =>
  rw [show joinN (m :: l) = (encodeRune m.1 ++ m.2) ++ moreN l from rfl, List.length_append, List.length_append]
  rcases List.mem_cons.1 h with rfl | h
  ·omega
  ·have := more_mem h
   omega
theorem text_zero {w e h : Bool} {l : List Need} {V : List UInt8 × Int} (hV : V = textM ⟨w, e, h, l⟩) (hl : l.length ≤ 300) (hp : ∀ n ∈ l, n.2.length ≤ 1000) (h0 : V.2 = 0) : parseM V.1 = (⟨w, e, h, l⟩, 0, 0) ∧ V.1.length ≤ 1000000 := by
 unfold textM at hV
 by_cases ha : l.all needB = true
 ·rw [if_pos ha] at hV
  subst hV
  refine ⟨parse_text (x := ⟨w, e, h, l⟩) ha, ?_⟩
  show (flagsT w e h ++ joinN l).length ≤ _
  have h1 := flagsT_len w e h
  have h2 := join_len hp
  rw [List.length_append]
  omega
 ·rw [if_neg ha] at hV
  subst hV
  cases h0
theorem back_parse {s : List UInt8} {Y : SpecM × Int × Int} (hY : Y = parseM s) (h0 : Y.2.1 = 0) (hs : s.length ≤ 300) : ∃ W, textM ⟨Y.1.w, Y.1.e, Y.1.h, Y.1.n⟩ = (W, 0) ∧ parseM W = (⟨Y.1.w, Y.1.e, Y.1.h, Y.1.n⟩, 0, 0) ∧ W.length ≤ s.length ∧ ∀ n ∈ Y.1.n, n.2.length ≤ 1000 := by
 obtain ⟨h1, h2⟩ := text_parse (s := s) (y := Y.1) (e := Y.2.1) (a := Y.2.2) (by rw [← hY]) h0
 refine ⟨_, text_okN h1 rfl, parse_text (x := ⟨Y.1.w, Y.1.e, Y.1.h, Y.1.n⟩) h1, h2, fun n hn => ?_⟩
 have := join_mem hn
 rw [List.length_append] at h2
 omega
set_option maxHeartbeats 16000000 in
theorem cback_law {G : Nat} {σ0 : Mem} {xv : Value} {xw xe xh : Bool} {l : List Need} {s : List UInt8} (hG : G ≤ σ0.next) (hno : σ0.abs = Abs.no) (h16 : 16 ≤ G) (h64 : 64 ≤ G) (hU : U8F σ0.get) (CK : ∀ σ', (∀ b y, σ0.get b = some y → σ'.get b = some y) → SCall G Tryz.prog 4 #[] σ' (.bool true) σ') (hx : SlF σ0.get 2 xv l.length (needC l)) :
  WC G Tryz.prog 5 #[.string ⟨s.toArray⟩, .agg #[.bool xw, .bool xe, .bool xh, xv]] σ0 fun v _ => v = .bool true := by
 obtain ⟨Y, hY⟩ : ∃ Y, Y = parseM s := ⟨_, rfl⟩
 obtain ⟨V, hV⟩ : ∃ V, V = textM ⟨xw, xe, xh, l⟩ := ⟨_, rfl⟩
 have hYl : s.length ≤ 300 → Y.1.n.length ≤ 1000000 := fun h => by rw [hY]; exact Nat.le_trans (parse_len s) (Nat.le_trans h (by decide))
 have H := Lies.start hG hno
 generalize σ0.get = F0 at H hx hU CK
 obtain ⟨F, hF⟩ : ∃ F, F = F0 := ⟨_, rfl⟩
 have le0 : Le F0 F := fun b y h => hF ▸ h
 rw [← hF] at H
 clear hF
 refine WC.enter (fn := Tryz.f5) Tryz.func5 rfl ?_
 refine W.rg [(0, .string ⟨s.toArray⟩), (1, .agg #[.bool xw, .bool xe, .bool xh, xv])] fun TA => ?_
 refine W.seq (W.region ?_)
 refine RW.mkL H (x := .row ⟨[.bool xw, .bool xe, .bool xh, xv], 39, false⟩) (fm := fun b => .pointer (some ⟨b, 0, none⟩)) (by kernel_rfl) (by kernel_rfl) (by rcases slf_forms (hx.le le0) with rfl | ⟨_, rfl⟩ | ⟨_, _, _, _, _, rfl⟩ <;> kernel_rfl) (by kernel_rfl) ?_
 clear H; intro _ b1 _ H
 refine RW.v ?_
 refine RW.nil ?_
 refine W.rg [(0, .string ⟨s.toArray⟩), (3, .pointer (some ⟨b1, 0, none⟩))] fun TA => ?_
 refine W.seq (W.region ?_)
 refine RW.cl ?_
 refine ⟨_, _, (CK _ fun b y h => H.old _ _ (le0 b y h)), ?_⟩
 refine RW.v ?_
 refine RW.nil ?_
 refine W.rg [(0, .string ⟨s.toArray⟩), (3, .pointer (some ⟨b1, 0, none⟩)), (5, .bool true)] fun TA => ?_
 refine W.seq ?_
 refine W.seq (W.region ?_)
 refine RW.v ?_
 refine RW.vop (v := .int .i64 (s.length : Int)) (by kernel_rfl) (by kernel_rfl) (vop_sLenL rfl rfl rfl rfl Tryz.underlying9 rfl) (by kernel_rfl) ?_
 iterate 2 refine RW.v ?_
 refine RW.both _ _ rfl rfl rfl (fun hc2 => ?_) (fun hc2 => ?_)
 ·have hc2b := hc2
  have hc2 := of_decide_eq_true hc2
  iterate 4 refine RW.s ?_
  refine RW.v ?_
  refine RW.nil ?_
  refine W.c1 ?_
  refine W.seq (W.region ?_)
  iterate 2 refine RW.v ?_
  refine RW.nil ?_
  replace H := (H.del 0)
  dsimp only [setL, delL] at H
  refine W.ret ?_
  refine seqQ_ret ?_
  refine endG (by rfl) (by exact resL_tmp rfl) ?_
  exact rfl
 ·have hc2b := hc2
  have hc2 := of_decide_eq_false hc2
  refine RW.w ?_
  refine RW.ldL H 0 1 (by rfl) (by kernel_rfl) rfl rfl rfl rfl rfl (by kernel_rfl) ?_
  refine RW.len (by rfl) (by kernel_rfl) rfl rfl rfl rfl ((hx.le le0).len (e := 57) (by kernel_rfl)) (by kernel_rfl) ?_
  refine RW.w ?_
  refine RW.v ?_
  refine RW.nil ?_
  refine W.rg [(0, .string ⟨s.toArray⟩), (3, .pointer (some ⟨b1, 0, none⟩)), (5, .bool true), (26, .bool (decide ((l.length : Int) > 40)))] fun TA => ?_
  refine W.cond rfl (fun hc3 => ?_) (fun hc3 => ?_)
  ·have hc3b := hc3
   have hc3 := of_decide_eq_true hc3
   refine W.seq (W.region ?_)
   iterate 2 refine RW.v ?_
   refine RW.nil ?_
   replace H := (H.del 0)
   dsimp only [setL, delL] at H
   refine W.ret ?_
   refine seqQ_ret ?_
   refine endG (by rfl) (by exact resL_tmp rfl) ?_
   exact rfl
  ·have hc3b := hc3
   have hc3 := of_decide_eq_false hc3
   refine W.skip ?_
   refine W.seq ?_
   refine W.seq (W.region ?_)
   refine RW.v ?_
   refine RW.nil ?_
   refine W.rg [(0, .string ⟨s.toArray⟩), (3, .pointer (some ⟨b1, 0, none⟩)), (5, .bool true), (6, .int .i64 0)] fun TA => ?_
   refine W.block ?_
   refine W.loop (fun mm ta σ => ∃ (i : Nat), (mm + i = l.length) ∧ (∀ j, j < i → (gD l j).2.length ≤ 60) ∧ Lies G Abs.no F σ (.at_ b1 (.row ⟨[.bool xw, .bool xe, .bool xh, xv], 39, false⟩) :: ([])) ∧ ta 0 = .string ⟨s.toArray⟩ ∧ ta 3 = .pointer (some ⟨b1, 0, none⟩) ∧ ta 5 = .bool true ∧ ta 6 = .int .i64 ((i : Nat) : Int)) l.length ?_ ?_
   ·exact ⟨0, (by omega), (fun j hj => absurd hj (Nat.not_lt_zero _)), H, rfl, rfl, rfl, rfl⟩
   clear H
   rintro mm ta _ ⟨i, hm, hq, H, e0, e3, e5, e6⟩
   refine W.rst [(0, .string ⟨s.toArray⟩), (3, .pointer (some ⟨b1, 0, none⟩)), (5, .bool true), (6, .int .i64 ((i : Nat) : Int))] ⟨e0, e3, e5, e6, trivial⟩ fun TA => ?_
   clear e0 e3 e5 e6
   refine W.seq ?_
   refine W.seq (W.region ?_)
   iterate 2 refine RW.v ?_
   refine RW.ld H 0 1 ?_
   refine RW.len (by kernel_rfl) (by kernel_rfl) rfl rfl rfl rfl ((hx.le le0).len (e := 57) (by kernel_rfl)) (by kernel_rfl) ?_
   refine RW.v ?_
   refine RW.nil ?_
   refine W.rg [(0, .string ⟨s.toArray⟩), (3, .pointer (some ⟨b1, 0, none⟩)), (5, .bool true), (6, .int .i64 ((i : Nat) : Int)), (32, .bool (decide (((i : Nat) : Int) < (l.length : Int))))] fun TA => ?_
   refine W.cond rfl (fun hc4 => ?_) (fun hc4 => ?_)
   ·have hc4b := hc4
    have hc4 := of_decide_eq_true hc4
    have hil : i < l.length := by omega
    refine W.skip ?_
    refine W.seq ?_
    refine W.block ?_
    refine W.seq (W.region ?_)
    refine RW.v ?_
    refine RW.ld H 0 1 ?_
    refine RW.v ?_
    refine RW.idxF (hx.le le0) (by kernel_rfl) (by kernel_rfl) rfl Tryz.underlying37 (by kernel_rfl) rfl rfl ⟨by omega, by omega⟩ (by kernel_rfl) ?_
    intro b5 q6 r7 hF8 hE9
    rw [need_at (l := l) (j := i) (i := ((i : Nat) : Int)) (by omega) (by omega)] at hE9
    refine RW.v ?_
    refine RW.loads 1 (by kernel_rfl) (by kernel_rfl) rfl rfl (H.old _ _ hF8) (sub_take hE9 1 1 (by decide)) rfl (by kernel_rfl) ?_
    refine RW.vop (v := .int .i64 (((gD l i).2).length : Int)) (by kernel_rfl) (by kernel_rfl) (vop_sLenL rfl rfl rfl rfl Tryz.underlying9 rfl) (by kernel_rfl) ?_
    refine RW.v ?_
    refine RW.nil ?_
    refine W.rg [(0, .string ⟨s.toArray⟩), (3, .pointer (some ⟨b1, 0, none⟩)), (5, .bool true), (6, .int .i64 ((i : Nat) : Int)), (42, .bool (decide ((((gD l i).2).length : Int) > 60)))] fun TA => ?_
    refine W.cond rfl (fun hc10 => ?_) (fun hc10 => ?_)
    ·have hc10b := hc10
     have hc10 := of_decide_eq_true hc10
     refine W.seq (W.region ?_)
     iterate 2 refine RW.v ?_
     refine RW.nil ?_
     replace H := (H.del 0)
     dsimp only [setL, delL] at H
     refine W.ret ?_
     refine blkQ_ret ?_
     refine seqQ_ret ?_
     refine rndQ_ret ?_
     refine blkQ_ret ?_
     refine seqQ_ret ?_
     refine endG (by rfl) (by exact resL_tmp rfl) ?_
     exact rfl
    ·have hc10b := hc10
     have hc10 := of_decide_eq_false hc10
     refine W.skip ?_
     refine blkQ_normal ?_
     refine W.region ?_
     refine RW.v ?_
     refine RW.valE (v' := .int .i64 (((i + 1) : Nat) : Int)) (by kernel_rfl) (by kernel_rfl) rfl (congrArg (Value.int .i64) ((wrap_in (by omega) (by omega)).trans (by omega))) (by kernel_rfl) ?_
     refine RW.v ?_
     refine RW.nil ?_
     exact ⟨rfl, mm - 1, by omega, i + 1, (by omega), (fun j hj => by rcases Nat.lt_or_ge j i with h | h; exact hq j h; obtain rfl : j = i := (by omega); omega), H, rfl, rfl, rfl, rfl⟩
   ·have hc4b := hc4
    have hc4 := of_decide_eq_false hc4
    refine W.exit _ ?_
    refine seqQ_exit ?_
    refine rndQ_exit ?_
    have hpr60 : ∀ n ∈ l, n.2.length ≤ 60 := fun n hn => by obtain ⟨j, hj, e⟩ := List.mem_iff_getElem.1 hn; have := hq j (by omega); rw [gD_get hj, e] at this; exact this
    have hpr : ∀ n ∈ l, n.2.length ≤ 1000 := fun n hn => Nat.le_trans (hpr60 n hn) (by decide)
    have hll : l.length ≤ 300 := by omega
    clear hq hm
    try clear mm i
    refine blkQ_here ?_
    refine W.seq ?_
    refine W.seq (W.region ?_)
    refine RW.ld H 0 4 ?_
    have hp := text_wc (xw := xw) (xe := xe) (xh := xh) (hU.le le0) h16 h64 (hx.le le0) hll hpr H
    rw [← hV] at hp
    refine RW.cl ?_
    refine ((hp).mono ?_)
    clear hp H
    rintro _ _ ⟨rfl, H⟩
    iterate 5 refine RW.v ?_
    refine RW.nil ?_
    refine W.rg [(0, .string ⟨s.toArray⟩), (3, .pointer (some ⟨b1, 0, none⟩)), (5, .bool true), (7, .string ⟨V.1.toArray⟩), (8, .int .i64 V.2)] fun TA => ?_
    refine W.seq (W.region ?_)
    iterate 2 refine RW.v ?_
    refine RW.nil ?_
    refine W.rg [(0, .string ⟨s.toArray⟩), (3, .pointer (some ⟨b1, 0, none⟩)), (5, .bool true), (7, .string ⟨V.1.toArray⟩), (50, .bool (V.2 == 0))] fun TA => ?_
    refine W.cond rfl (fun hc11 => ?_) (fun hc11 => ?_)
    ·have hc11b := hc11
     have hc11 := eq_of_beq hc11
     obtain ⟨hPV, hVl⟩ := text_zero hV hll hpr hc11
     refine W.seq (W.region ?_)
     refine RW.v ?_
     have hp := parse_wc (s := V.1) (hU.le le0) h16 h64 (by omega) H
     rw [hPV] at hp
     dsimp only at hp
     refine RW.cl ?_
     refine ((hp).mono ?_)
     clear hp H
     rintro _ _ ⟨F, p1, le, rfl, hp1, H⟩
     replace le0 := fun b y h => le b y (le0 b y h)
     clear le
     iterate 3 refine RW.v ?_
     refine RW.mk H (.row ⟨[.bool false, .bool false, .bool false, .slice none 0 0], 39, false⟩) ?_
     clear H; intro _ b12 _ H
     refine RW.mk H (.row ⟨[.int .i64 0, .int .i64 0], 41, false⟩) ?_
     clear H; intro _ b13 _ H
     refine RW.stL H 1 (vs := [.bool xw, .bool xe, .bool xh, p1]) (cs' := [.bool xw, .bool xe, .bool xh, p1]) (by kernel_rfl) (by kernel_rfl) rfl rfl rfl (by rcases slf_forms hp1 with rfl | ⟨_, rfl⟩ | ⟨_, _, _, _, _, rfl⟩ <;> rfl) (by rcases slf_forms hp1 with rfl | ⟨_, rfl⟩ | ⟨_, _, _, _, _, rfl⟩ <;> rfl) (by kernel_rfl) (Nat.le_of_ble_eq_true rfl) rfl (by kernel_rfl) ?_
     clear H; intro _ _ H; dsimp only [setL, delL] at H
     refine RW.st H 0 [.int .i64 0, .int .i64 0] [.int .i64 0, .int .i64 0] ?_
     clear H; intro _ _ H; dsimp only [setL, delL] at H
     refine RW.nil ?_
     refine W.rg [(0, .string ⟨s.toArray⟩), (3, .pointer (some ⟨b1, 0, none⟩)), (5, .bool true), (9, .pointer (some ⟨b12, 0, none⟩)), (10, .pointer (some ⟨b13, 0, none⟩))] fun TA => ?_
     refine W.region ?_
     iterate 2 refine RW.v ?_
     refine RW.ldL H 0 2 (by rfl) (by kernel_rfl) rfl rfl rfl rfl rfl (by kernel_rfl) ?_
     refine RW.val (v := .agg #[.int .i64 0, .int .i64 0]) (by rfl) (by kernel_rfl) (by kernel_rfl) (by kernel_rfl) ?_
     refine RW.vop (v := .bool true) (by rfl) (by kernel_rfl) (vop_eqS (b := true) (r := true) rfl (.inl ⟨rfl, rfl⟩) rfl rfl rfl rfl (by kernel_rfl) (fun w => eqFa _ _ w)) (by kernel_rfl) ?_
     iterate 2 refine RW.v ?_
     refine RW.ldL H 2 4 (by rfl) (by kernel_rfl) rfl rfl rfl rfl rfl (by kernel_rfl) ?_
     refine RW.ldL H 1 4 (by rfl) (by kernel_rfl) rfl rfl rfl rfl rfl (by kernel_rfl) ?_
     refine RW.cl (hw := by rfl) ?_
     refine ((speceq_wc (hx.le le0) hp1 (by omega) H).mono ?_)
     clear H
     rintro _ _ ⟨rfl, H⟩
     iterate 2 refine RW.v ?_
     refine RW.nil ?_
     replace H := (((H.del 2).del 1).del 0)
     dsimp only [setL, delL] at H
     refine W.rg [(0, .string ⟨s.toArray⟩), (5, .bool true)] fun TA => ?_
     refine W.seq ?_
     refine W.seq (W.region ?_)
     refine RW.v ?_
     have hp := parse_wc (s := s) (hU.le le0) h16 h64 (by omega) H
     rw [← hY] at hp
     refine RW.cl ?_
     refine ((hp).mono ?_)
     clear hp H
     rintro _ _ ⟨F, p2, le, rfl, hp2, H⟩
     replace le0 := fun b y h => le b y (le0 b y h)
     replace hp1 := hp1.le le
     clear le
     iterate 3 refine RW.v ?_
     refine RW.mk H (.row ⟨[.bool false, .bool false, .bool false, .slice none 0 0], 39, false⟩) ?_
     clear H; intro _ b14 _ H
     refine RW.mk H (.row ⟨[.int .i64 0, .int .i64 0], 41, false⟩) ?_
     clear H; intro _ b15 _ H
     refine RW.stL H 1 (vs := [.bool Y.1.w, .bool Y.1.e, .bool Y.1.h, p2]) (cs' := [.bool Y.1.w, .bool Y.1.e, .bool Y.1.h, p2]) (by kernel_rfl) (by kernel_rfl) rfl rfl rfl (by rcases slf_forms hp2 with rfl | ⟨_, rfl⟩ | ⟨_, _, _, _, _, rfl⟩ <;> rfl) (by rcases slf_forms hp2 with rfl | ⟨_, rfl⟩ | ⟨_, _, _, _, _, rfl⟩ <;> rfl) (by kernel_rfl) (Nat.le_of_ble_eq_true rfl) rfl (by kernel_rfl) ?_
     clear H; intro _ _ H; dsimp only [setL, delL] at H
     refine RW.st H 0 [.int .i64 Y.2.1, .int .i64 Y.2.2] [.int .i64 Y.2.1, .int .i64 Y.2.2] ?_
     clear H; intro _ _ H; dsimp only [setL, delL] at H
     refine RW.nil ?_
     refine W.rg [(0, .string ⟨s.toArray⟩), (5, .bool true), (11, .pointer (some ⟨b14, 0, none⟩)), (12, .pointer (some ⟨b15, 0, none⟩))] fun TA => ?_
     refine W.seq (W.region ?_)
     refine RW.v ?_
     refine RW.ld H 0 1 ?_
     refine RW.v ?_
     refine RW.nil ?_
     replace H := (H.del 0)
     dsimp only [setL, delL] at H
     refine W.rg [(0, .string ⟨s.toArray⟩), (5, .bool true), (11, .pointer (some ⟨b14, 0, none⟩)), (74, .bool (Y.2.1 == 0))] fun TA => ?_
     refine W.cond rfl (fun hc16 => ?_) (fun hc16 => ?_)
     ·have hc16b := hc16
      have hc16 := eq_of_beq hc16
      obtain ⟨bw, hTW, hPW, hWl, hpr2⟩ := back_parse hY hc16 (by omega)
      have hll2 : Y.1.n.length ≤ 300 := by rw [hY]; exact Nat.le_trans (parse_len s) (by omega)
      refine W.seq (W.region ?_)
      refine RW.ld H 0 4 ?_
      have hp := text_wc (xw := Y.1.w) (xe := Y.1.e) (xh := Y.1.h) (hU.le le0) h16 h64 hp2 hll2 hpr2 H
      rw [hTW] at hp
      dsimp only at hp
      refine RW.cl ?_
      refine ((hp).mono ?_)
      clear hp H
      rintro _ _ ⟨rfl, H⟩
      iterate 5 refine RW.v ?_
      refine RW.nil ?_
      refine W.rg [(0, .string ⟨s.toArray⟩), (5, .bool true), (11, .pointer (some ⟨b14, 0, none⟩)), (13, .string ⟨bw.toArray⟩), (14, .int .i64 0)] fun TA => ?_
      refine W.seq (W.region ?_)
      refine RW.v ?_
      have hp := parse_wc (s := bw) (hU.le le0) h16 h64 (by omega) H
      rw [hPW] at hp
      dsimp only at hp
      refine RW.cl ?_
      refine ((hp).mono ?_)
      clear hp H
      rintro _ _ ⟨F, p3, le, rfl, hp3, H⟩
      replace le0 := fun b y h => le b y (le0 b y h)
      replace hp1 := hp1.le le
      replace hp2 := hp2.le le
      clear le
      iterate 3 refine RW.v ?_
      refine RW.mk H (.row ⟨[.bool false, .bool false, .bool false, .slice none 0 0], 39, false⟩) ?_
      clear H; intro _ b17 _ H
      refine RW.mk H (.row ⟨[.int .i64 0, .int .i64 0], 41, false⟩) ?_
      clear H; intro _ b18 _ H
      refine RW.stL H 1 (vs := [.bool Y.1.w, .bool Y.1.e, .bool Y.1.h, p3]) (cs' := [.bool Y.1.w, .bool Y.1.e, .bool Y.1.h, p3]) (by kernel_rfl) (by kernel_rfl) rfl rfl rfl (by rcases slf_forms hp3 with rfl | ⟨_, rfl⟩ | ⟨_, _, _, _, _, rfl⟩ <;> rfl) (by rcases slf_forms hp3 with rfl | ⟨_, rfl⟩ | ⟨_, _, _, _, _, rfl⟩ <;> rfl) (by kernel_rfl) (Nat.le_of_ble_eq_true rfl) rfl (by kernel_rfl) ?_
      clear H; intro _ _ H; dsimp only [setL, delL] at H
      refine RW.st H 0 [.int .i64 0, .int .i64 0] [.int .i64 0, .int .i64 0] ?_
      clear H; intro _ _ H; dsimp only [setL, delL] at H
      refine RW.nil ?_
      refine W.rg [(0, .string ⟨s.toArray⟩), (5, .bool true), (11, .pointer (some ⟨b14, 0, none⟩)), (13, .string ⟨bw.toArray⟩), (14, .int .i64 0), (15, .pointer (some ⟨b17, 0, none⟩)), (16, .pointer (some ⟨b18, 0, none⟩))] fun TA => ?_
      refine W.region ?_
      iterate 2 refine RW.v ?_
      iterate 2 refine RW.w ?_
      iterate 2 refine RW.v ?_
      refine RW.ldL H 0 2 (by rfl) (by kernel_rfl) rfl rfl rfl rfl rfl (by kernel_rfl) ?_
      refine RW.val (v := .agg #[.int .i64 0, .int .i64 0]) (by rfl) (by kernel_rfl) (by kernel_rfl) (by kernel_rfl) ?_
      refine RW.vop (v := .bool true) (by rfl) (by kernel_rfl) (vop_eqS (b := true) (r := true) rfl (.inl ⟨rfl, rfl⟩) rfl rfl rfl rfl (by kernel_rfl) (fun w => eqFa _ _ w)) (by kernel_rfl) ?_
      iterate 2 refine RW.v ?_
      refine RW.ldL H 2 4 (by rfl) (by kernel_rfl) rfl rfl rfl rfl rfl (by kernel_rfl) ?_
      refine RW.ldL H 1 4 (by rfl) (by kernel_rfl) rfl rfl rfl rfl rfl (by kernel_rfl) ?_
      refine RW.cl (hw := by rfl) ?_
      refine ((speceq_wc hp2 hp3 (hYl (by omega)) H).mono ?_)
      clear H
      rintro _ _ ⟨rfl, H⟩
      iterate 2 refine RW.v ?_
      refine RW.w ?_
      refine RW.vop (v := .int .i64 (bw.length : Int)) (by rfl) (by kernel_rfl) (vop_sLenL rfl rfl rfl rfl Tryz.underlying9 rfl) (by kernel_rfl) ?_
      refine RW.w ?_
      refine RW.vop (v := .int .i64 (s.length : Int)) (by rfl) (by kernel_rfl) (vop_sLenL rfl rfl rfl rfl Tryz.underlying9 rfl) (by kernel_rfl) ?_
      refine RW.valE (v' := .bool true) (by rfl) (by kernel_rfl) rfl (congrArg Value.bool (decide_eq_true (by omega))) (by kernel_rfl) ?_
      iterate 2 refine RW.v ?_
      refine RW.nil ?_
      replace H := (((H.del 2).del 1).del 0)
      dsimp only [setL, delL] at H
      refine W.rg [(5, .bool true)] fun TA => ?_
      refine W.seq (W.region ?_)
      iterate 2 refine RW.v ?_
      refine RW.nil ?_
      refine W.ret ?_
      refine endG (by rfl) (by exact resL_tmp rfl) ?_
      exact rfl
     ·have hc16b := hc16
      have hc16 := ne_of_beq_false hc16
      refine W.skip ?_
      refine W.seq (W.region ?_)
      iterate 2 refine RW.v ?_
      refine RW.nil ?_
      replace H := (H.del 0)
      dsimp only [setL, delL] at H
      refine W.ret ?_
      refine endG (by rfl) (by exact resL_tmp rfl) ?_
      exact rfl
    ·have hc11b := hc11
     have hc11 := ne_of_beq_false hc11
     refine W.skip ?_
     refine W.seq ?_
     refine W.seq (W.region ?_)
     refine RW.v ?_
     have hp := parse_wc (s := s) (hU.le le0) h16 h64 (by omega) H
     rw [← hY] at hp
     refine RW.cl ?_
     refine ((hp).mono ?_)
     clear hp H
     rintro _ _ ⟨F, p2, le, rfl, hp2, H⟩
     replace le0 := fun b y h => le b y (le0 b y h)
     clear le
     iterate 3 refine RW.v ?_
     refine RW.mk H (.row ⟨[.bool false, .bool false, .bool false, .slice none 0 0], 39, false⟩) ?_
     clear H; intro _ b19 _ H
     refine RW.mk H (.row ⟨[.int .i64 0, .int .i64 0], 41, false⟩) ?_
     clear H; intro _ b20 _ H
     refine RW.stL H 1 (vs := [.bool Y.1.w, .bool Y.1.e, .bool Y.1.h, p2]) (cs' := [.bool Y.1.w, .bool Y.1.e, .bool Y.1.h, p2]) (by kernel_rfl) (by kernel_rfl) rfl rfl rfl (by rcases slf_forms hp2 with rfl | ⟨_, rfl⟩ | ⟨_, _, _, _, _, rfl⟩ <;> rfl) (by rcases slf_forms hp2 with rfl | ⟨_, rfl⟩ | ⟨_, _, _, _, _, rfl⟩ <;> rfl) (by kernel_rfl) (Nat.le_of_ble_eq_true rfl) rfl (by kernel_rfl) ?_
     clear H; intro _ _ H; dsimp only [setL, delL] at H
     refine RW.st H 0 [.int .i64 Y.2.1, .int .i64 Y.2.2] [.int .i64 Y.2.1, .int .i64 Y.2.2] ?_
     clear H; intro _ _ H; dsimp only [setL, delL] at H
     refine RW.nil ?_
     replace H := (H.del 2)
     dsimp only [setL, delL] at H
     refine W.rg [(0, .string ⟨s.toArray⟩), (5, .bool true), (11, .pointer (some ⟨b19, 0, none⟩)), (12, .pointer (some ⟨b20, 0, none⟩))] fun TA => ?_
     refine W.seq (W.region ?_)
     refine RW.v ?_
     refine RW.ld H 0 1 ?_
     refine RW.v ?_
     refine RW.nil ?_
     replace H := (H.del 0)
     dsimp only [setL, delL] at H
     refine W.rg [(0, .string ⟨s.toArray⟩), (5, .bool true), (11, .pointer (some ⟨b19, 0, none⟩)), (74, .bool (Y.2.1 == 0))] fun TA => ?_
     refine W.cond rfl (fun hc21 => ?_) (fun hc21 => ?_)
     ·have hc21b := hc21
      have hc21 := eq_of_beq hc21
      obtain ⟨bw, hTW, hPW, hWl, hpr2⟩ := back_parse hY hc21 (by omega)
      have hll2 : Y.1.n.length ≤ 300 := by rw [hY]; exact Nat.le_trans (parse_len s) (by omega)
      refine W.seq (W.region ?_)
      refine RW.ld H 0 4 ?_
      have hp := text_wc (xw := Y.1.w) (xe := Y.1.e) (xh := Y.1.h) (hU.le le0) h16 h64 hp2 hll2 hpr2 H
      rw [hTW] at hp
      dsimp only at hp
      refine RW.cl ?_
      refine ((hp).mono ?_)
      clear hp H
      rintro _ _ ⟨rfl, H⟩
      iterate 5 refine RW.v ?_
      refine RW.nil ?_
      refine W.rg [(0, .string ⟨s.toArray⟩), (5, .bool true), (11, .pointer (some ⟨b19, 0, none⟩)), (13, .string ⟨bw.toArray⟩), (14, .int .i64 0)] fun TA => ?_
      refine W.seq (W.region ?_)
      refine RW.v ?_
      have hp := parse_wc (s := bw) (hU.le le0) h16 h64 (by omega) H
      rw [hPW] at hp
      dsimp only at hp
      refine RW.cl ?_
      refine ((hp).mono ?_)
      clear hp H
      rintro _ _ ⟨F, p3, le, rfl, hp3, H⟩
      replace le0 := fun b y h => le b y (le0 b y h)
      replace hp2 := hp2.le le
      clear le
      iterate 3 refine RW.v ?_
      refine RW.mk H (.row ⟨[.bool false, .bool false, .bool false, .slice none 0 0], 39, false⟩) ?_
      clear H; intro _ b22 _ H
      refine RW.mk H (.row ⟨[.int .i64 0, .int .i64 0], 41, false⟩) ?_
      clear H; intro _ b23 _ H
      refine RW.stL H 1 (vs := [.bool Y.1.w, .bool Y.1.e, .bool Y.1.h, p3]) (cs' := [.bool Y.1.w, .bool Y.1.e, .bool Y.1.h, p3]) (by kernel_rfl) (by kernel_rfl) rfl rfl rfl (by rcases slf_forms hp3 with rfl | ⟨_, rfl⟩ | ⟨_, _, _, _, _, rfl⟩ <;> rfl) (by rcases slf_forms hp3 with rfl | ⟨_, rfl⟩ | ⟨_, _, _, _, _, rfl⟩ <;> rfl) (by kernel_rfl) (Nat.le_of_ble_eq_true rfl) rfl (by kernel_rfl) ?_
      clear H; intro _ _ H; dsimp only [setL, delL] at H
      refine RW.st H 0 [.int .i64 0, .int .i64 0] [.int .i64 0, .int .i64 0] ?_
      clear H; intro _ _ H; dsimp only [setL, delL] at H
      refine RW.nil ?_
      refine W.rg [(0, .string ⟨s.toArray⟩), (5, .bool true), (11, .pointer (some ⟨b19, 0, none⟩)), (13, .string ⟨bw.toArray⟩), (14, .int .i64 0), (15, .pointer (some ⟨b22, 0, none⟩)), (16, .pointer (some ⟨b23, 0, none⟩))] fun TA => ?_
      refine W.region ?_
      iterate 2 refine RW.v ?_
      iterate 2 refine RW.w ?_
      iterate 2 refine RW.v ?_
      refine RW.ldL H 0 2 (by rfl) (by kernel_rfl) rfl rfl rfl rfl rfl (by kernel_rfl) ?_
      refine RW.val (v := .agg #[.int .i64 0, .int .i64 0]) (by rfl) (by kernel_rfl) (by kernel_rfl) (by kernel_rfl) ?_
      refine RW.vop (v := .bool true) (by rfl) (by kernel_rfl) (vop_eqS (b := true) (r := true) rfl (.inl ⟨rfl, rfl⟩) rfl rfl rfl rfl (by kernel_rfl) (fun w => eqFa _ _ w)) (by kernel_rfl) ?_
      iterate 2 refine RW.v ?_
      refine RW.ldL H 2 4 (by rfl) (by kernel_rfl) rfl rfl rfl rfl rfl (by kernel_rfl) ?_
      refine RW.ldL H 1 4 (by rfl) (by kernel_rfl) rfl rfl rfl rfl rfl (by kernel_rfl) ?_
      refine RW.cl (hw := by rfl) ?_
      refine ((speceq_wc hp2 hp3 (hYl (by omega)) H).mono ?_)
      clear H
      rintro _ _ ⟨rfl, H⟩
      iterate 2 refine RW.v ?_
      refine RW.w ?_
      refine RW.vop (v := .int .i64 (bw.length : Int)) (by rfl) (by kernel_rfl) (vop_sLenL rfl rfl rfl rfl Tryz.underlying9 rfl) (by kernel_rfl) ?_
      refine RW.w ?_
      refine RW.vop (v := .int .i64 (s.length : Int)) (by rfl) (by kernel_rfl) (vop_sLenL rfl rfl rfl rfl Tryz.underlying9 rfl) (by kernel_rfl) ?_
      refine RW.valE (v' := .bool true) (by rfl) (by kernel_rfl) rfl (congrArg Value.bool (decide_eq_true (by omega))) (by kernel_rfl) ?_
      iterate 2 refine RW.v ?_
      refine RW.nil ?_
      replace H := (((H.del 2).del 1).del 0)
      dsimp only [setL, delL] at H
      refine W.rg [(5, .bool true)] fun TA => ?_
      refine W.seq (W.region ?_)
      iterate 2 refine RW.v ?_
      refine RW.nil ?_
      refine W.ret ?_
      refine endG (by rfl) (by exact resL_tmp rfl) ?_
      exact rfl
     ·have hc21b := hc21
      have hc21 := ne_of_beq_false hc21
      refine W.skip ?_
      refine W.seq (W.region ?_)
      iterate 2 refine RW.v ?_
      refine RW.nil ?_
      replace H := (H.del 0)
      dsimp only [setL, delL] at H
      refine W.ret ?_
      refine endG (by rfl) (by exact resL_tmp rfl) ?_
      exact rfl
end Go.Proofs.YthemeeiedlbhkaaGreatDoor
