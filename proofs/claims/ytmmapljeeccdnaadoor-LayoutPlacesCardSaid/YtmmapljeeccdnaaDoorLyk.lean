/-
 LayoutPlaces in the second memory. Conditions: none.
-/
import Derived.Test.YtmmapljeeccdnaaDoorL2
import Derived.Test.YtmmapljeeccdnaaDoorK3
import Derived.Test.YtmmapljeeccdnaaDoorCld
namespace Go.Proofs.YtmmapljeeccdnaaDoor
set_option maxRecDepth 100000
open Go.Lib
theorem places {l : List Prt} {fr to_ wd tab : Int} {wrap : Bool} {A1 : List RowV} (e1 : errM l fr to_ wd tab 10000 = 0) (hA : A1 = rowsA l fr to_ wd tab wrap 10000) (hne : A1.length ≠ 10000) :
  0 < A1.length ∧ GoodR to_ wd.toNat fr A1 ∧ ∀ i, i < A1.length → (A1.getD i default).to = if i + 1 < A1.length then (A1.getD (i + 1) default).fr else to_ := by
 obtain ⟨h1, h2, _⟩ := errM_zero.1 e1
 rw [rowsA_ok e1, rows_take] at hA
 have hl : (tosX (allI to_ wd.toNat wrap (unitsM tab.toNat 0 (charsM l))) to_).length < 10000 := by
  rcases Nat.lt_or_ge (tosX (allI to_ wd.toNat wrap (unitsM tab.toNat 0 (charsM l))) to_).length 10000 with h | h
  ·exact h
  ·exfalso
   rw [hA, List.length_take] at hne
   exact hne (Nat.min_eq_left h)
 rw [List.take_of_length_le (by show _ ≤ 10000; omega)] at hA
 subst hA
 refine ⟨?_, rows_good (by omega) h1, fun i hi => ?_⟩
 ·rw [tosX_len]
  unfold allI
  rw [List.length_append, List.length_singleton]
  omega
 ·rw [tosX_len] at hi ⊢
  exact tosX_to hi
theorem lastS_snoc {m : Int} {l : List Int} {k : Nat} (h : k < l.length) : lastS m (l.take (k + 1)) = if l.getD k 0 = -1 then lastS m (l.take k) else l.getD k 0 := by
 rw [List.take_add_one, List.getElem?_eq_getElem h, lastS_app, List.getD_eq_getElem?_getD, List.getElem?_eq_getElem h]
 rfl
theorem at_at {R : List RowV} {i k : Nat} (hi : i < R.length) (hk : k < (R.getD i default).P.length) (hp : (R.getD i default).P.getD k 0 ≠ -1) : atM R ((i : Nat) : Int) ((k : Nat) : Int) = ((R.getD i default).P.getD k 0, true) := by
 unfold atM
 rw [if_neg (by omega), Int.toNat_natCast, Int.toNat_natCast, if_pos ⟨by omega, by omega, hp⟩]
theorem idx_first {p : Int → Bool} : ∀ {P : List Int} {k : Nat}, k < P.length → p (P.getD k 0) = true → ∃ b, P.findIdx? p = some b ∧ b ≤ k ∧ b < P.length ∧ p (P.getD b 0) = true
 | [], _, h, _ => absurd h (Nat.not_lt_zero _)
 | x :: l, k, h, hp => by
  rw [List.findIdx?_cons]
  by_cases hx : p x = true
  ·rw [if_pos hx]
   exact ⟨0, rfl, Nat.zero_le _, Nat.succ_pos _, hx⟩
  ·rw [if_neg hx]
   match k, hp with
   | 0, hp => exact absurd hp hx
   | k + 1, hp =>
    obtain ⟨b, e, h1, h2, h3⟩ := idx_first (P := l) (k := k) (by simpa using h) hp
    exact ⟨b + 1, by rw [e]; rfl, by omega, by simpa using h2, h3⟩
theorem firstR_first {p : Int → Bool} : ∀ {R : List RowV} {i k : Nat}, i < R.length → k < (R.getD i default).P.length → p ((R.getD i default).P.getD k 0) = true → ∃ a b, firstR p R = some (a, b) ∧ (a < i ∨ (a = i ∧ b ≤ k)) ∧ a < R.length ∧ b < (R.getD a default).P.length ∧ p ((R.getD a default).P.getD b 0) = true
 | [], _, _, h, _, _ => absurd h (Nat.not_lt_zero _)
 | r :: R, i, k, hi, hk, hp => by
  unfold firstR
  cases hf : r.P.findIdx? p with
  | some b =>
   refine ⟨0, b, rfl, ?_, Nat.succ_pos _, ?_, ?_⟩
   ·match i, hk, hp with
    | 0, hk, hp =>
     obtain ⟨b', e, h1, _⟩ := idx_first hk hp
     have e : r.P.findIdx? p = some b' := e
     rw [hf] at e
     cases e
     exact .inr ⟨rfl, h1⟩
    | i + 1, _, _ => exact .inl (Nat.succ_pos _)
   ·have := List.findIdx?_eq_some_iff_getElem.1 hf
    exact this.1
   ·obtain ⟨h1, h2, _⟩ := List.findIdx?_eq_some_iff_getElem.1 hf
    show p (r.P.getD b 0) = true
    rw [List.getD_eq_getElem?_getD, List.getElem?_eq_getElem h1]
    exact h2
  | none =>
   match i, hk, hp with
   | 0, hk, hp =>
    obtain ⟨b', e, _⟩ := idx_first hk hp
    have e : r.P.findIdx? p = some b' := e
    rw [hf] at e
    cases e
   | i + 1, hk, hp =>
    obtain ⟨a, b, e, h1, h2, h3, h4⟩ := firstR_first (R := R) (i := i) (k := k) (by simpa using hi) hk hp
    dsimp only
    rw [e]
    exact ⟨a + 1, b, rfl, by omega, by simpa using h2, h3, h4⟩
theorem where_at {R : List RowV} {i k : Nat} (hi : i < R.length) (hk : k < (R.getD i default).P.length) (hp : (R.getD i default).P.getD k 0 ≠ -1) :
  ∃ a b : Nat, whereM R ((R.getD i default).P.getD k 0) = (((a : Nat) : Int), ((b : Nat) : Int), true) ∧ (a < i ∨ (a = i ∧ b ≤ k)) ∧ a < R.length ∧ b < (R.getD a default).P.length ∧ (R.getD a default).P.getD b 0 = (R.getD i default).P.getD k 0 := by
 obtain ⟨a, b, e, h1, h2, h3, h4⟩ := firstR_first (p := p1 ((R.getD i default).P.getD k 0)) hi hk (by
  unfold p1
  rw [Bool.and_eq_true]
  exact ⟨beq_iff_eq.2 rfl, bne_iff_ne.2 hp⟩)
 refine ⟨a, b, ?_, h1, h2, h3, ?_⟩
 ·unfold whereM
  rw [e]
 ·unfold p1 at h4
  rw [Bool.and_eq_true] at h4
  exact eq_of_beq h4.1
set_option maxHeartbeats 32000000 in
theorem places_law {G : Nat} {σ0 : Mem} {v1 : Value} {l : List Prt} {fr to_ wd tab : Int} {wrap : Bool} (hG : G ≤ σ0.next) (hno : σ0.abs = Abs.no) (h16 : 16 ≤ G) (hU : U8F σ0.get) (CK : ∀ σ', (∀ b y, σ0.get b = some y → σ'.get b = some y) → SCall G Tryd.prog 5 #[] σ' (.bool true) σ') (h1 : SlF σ0.get 9 v1 l.length (pC l)) :
  WC G Tryd.prog 7 #[v1, .int .i64 fr, .int .i64 to_, .int .i64 wd, .int .i64 tab, .bool wrap] σ0 fun v _ => v = .bool true := by
 have H := Lies.start hG hno
 generalize σ0.get = F0 at H h1 hU CK
 obtain ⟨F, hF⟩ : ∃ F, F = F0 := ⟨_, rfl⟩
 have le0 : Le F0 F := fun b y h => hF ▸ h
 rw [← hF] at H
 clear hF
 refine WC.enter (fn := Tryd.f7) Tryd.func7 rfl ?_
 refine W.rg [(0, v1), (1, .int .i64 fr), (2, .int .i64 to_), (3, .int .i64 wd), (4, .int .i64 tab), (5, .bool wrap)] fun TA => ?_
 refine W.seq (W.region ?_)
 refine RW.v ?_
 refine RW.nil ?_
 refine W.rg [(0, v1), (1, .int .i64 fr), (2, .int .i64 to_), (3, .int .i64 wd), (4, .int .i64 tab), (5, .bool wrap)] fun TA => ?_
 refine W.seq (W.region ?_)
 refine RW.cl ?_
 refine ⟨_, _, (CK _ fun b y h => H.old _ _ (le0 b y h)), ?_⟩
 refine RW.v ?_
 refine RW.nil ?_
 refine W.rg [(0, v1), (1, .int .i64 fr), (2, .int .i64 to_), (3, .int .i64 wd), (4, .int .i64 tab), (5, .bool wrap), (13, .bool true)] fun TA => ?_
 refine W.seq ?_
 refine W.seq (W.region ?_)
 refine RW.v ?_
 refine RW.cl ?_
 refine ((long_wc (h1.le le0) H).mono ?_)
 clear H
 rintro _ _ ⟨lb1, rfl, hlb1, H⟩
 refine RW.v ?_
 refine RW.both _ _ rfl rfl rfl (fun hc2 => ?_) (fun hc2 => ?_)
 ·have hc2b := hc2
  refine RW.skip (by rfl) (by kernel_rfl) ?_
  refine RW.skip (by rfl) (by kernel_rfl) ?_
  refine RW.skip (by rfl) (by kernel_rfl) ?_
  refine RW.skip (by rfl) (by kernel_rfl) ?_
  refine RW.v ?_
  refine RW.nil ?_
  refine W.c1 ?_
  refine W.seq (W.region ?_)
  iterate 2 refine RW.v ?_
  refine RW.nil ?_
  refine W.ret ?_
  refine seqQ_ret ?_
  refine endG (by rfl) (by exact resL_tmp rfl) ?_
  exact rfl
 ·have hc2b := hc2
  obtain ⟨hl, hsz⟩ := hlb1 hc2b
  have hsm : ∀ x ∈ l, x.s.length ≤ 1000 := prts_all fun j hj => by have := hsz j hj; omega
  refine RW.val (by rfl) (by kernel_rfl) rfl (by kernel_rfl) ?_
  refine RW.val (by rfl) (by kernel_rfl) rfl (by kernel_rfl) ?_
  refine RW.val (by rfl) (by kernel_rfl) rfl (by kernel_rfl) ?_
  refine RW.cl (hw := by rfl) ?_
  refine ((vast_wc (by omega) (h1.le le0) H).mono ?_)
  clear H
  rintro _ _ ⟨vb3, rfl, H⟩
  refine RW.v ?_
  refine RW.nil ?_
  refine W.rg [(0, v1), (1, .int .i64 fr), (2, .int .i64 to_), (3, .int .i64 wd), (4, .int .i64 tab), (5, .bool wrap), (13, .bool true), (34, .bool vb3)] fun TA => ?_
  refine W.cond rfl (fun hc4 => ?_) (fun hc4 => ?_)
  ·have hc4b := hc4
   refine W.seq (W.region ?_)
   iterate 2 refine RW.v ?_
   refine RW.nil ?_
   refine W.ret ?_
   refine seqQ_ret ?_
   refine endG (by rfl) (by exact resL_tmp rfl) ?_
   exact rfl
  ·have hc4b := hc4
   refine W.skip ?_
   refine W.seq (W.region ?_)
   iterate 6 refine RW.v ?_
   refine RW.cl ?_
   refine ((Rows_fz (hU.le le0) h16 (h1.le le0) (by omega) hsm H).mono ?_)
   clear H
   rintro _ _ ⟨F, u1, ds1, qs1, le, rfl, hv1, al1, H⟩
   replace le0 := fun b y h => le b y (le0 b y h)
   obtain ⟨A1, hA1⟩ : ∃ A1, A1 = rowsA l fr to_ wd tab wrap 10000 := ⟨_, rfl⟩
   rw [← hA1] at hv1 al1
   have hn1 : A1.length ≤ 10000 := hA1 ▸ rowsA_len
   have hw1 : ∀ r ∈ A1, r.C.length ≤ 1000 ∧ r.P.length ≤ 1000 := hA1 ▸ rowsA_wid
   obtain ⟨E1, hE1⟩ : ∃ E1, E1 = errM l fr to_ wd tab 10000 := ⟨_, rfl⟩
   rw [← hE1]
   iterate 5 refine RW.v ?_
   refine RW.nil ?_
   refine W.rg [(1, .int .i64 fr), (2, .int .i64 to_), (3, .int .i64 wd), (13, .bool true), (14, u1), (15, .int .i64 E1)] fun TA => ?_
   refine W.seq ?_
   refine W.seq (W.region ?_)
   iterate 3 refine RW.v ?_
   refine RW.both _ _ rfl rfl rfl (fun hc5 => ?_) (fun hc5 => ?_)
   ·have hc5b := hc5
    have hc5 := bne_iff_ne.1 hc5
    have z1 : A1.length = 0 := by rw [hA1, rowsA_err (hE1 ▸ hc5)]; rfl
    refine RW.skip (by rfl) (by kernel_rfl) ?_
    refine RW.skip (by rfl) (by kernel_rfl) ?_
    refine RW.skip (by rfl) (by kernel_rfl) ?_
    refine RW.v ?_
    refine RW.nil ?_
    refine W.c1 ?_
    refine W.seq (W.region ?_)
    iterate 2 refine RW.v ?_
    refine RW.val (by rfl) (by kernel_rfl) rfl (by kernel_rfl) ?_
    refine RW.valE (v' := .bool false) (by rfl) (by kernel_rfl) rfl (congrArg Value.bool (beq_eq_false_iff_ne.2 (by omega))) (by kernel_rfl) ?_
    refine RW.val (by rfl) (by kernel_rfl) rfl (by kernel_rfl) ?_
    refine RW.val (by rfl) (by kernel_rfl) rfl (by kernel_rfl) ?_
    refine RW.len (by rfl) (by kernel_rfl) rfl rfl rfl rfl (hv1.slf.len (e := 39) (by kernel_rfl)) (by kernel_rfl) ?_
    refine RW.valE (v' := .bool true) (by rfl) (by kernel_rfl) rfl (congrArg Value.bool (beq_iff_eq.2 (by omega))) (by kernel_rfl) ?_
    refine RW.val (by rfl) (by kernel_rfl) rfl (by kernel_rfl) ?_
    iterate 2 refine RW.v ?_
    refine RW.nil ?_
    refine W.ret ?_
    refine seqQ_ret ?_
    refine endG (by rfl) (by exact resL_tmp rfl) ?_
    exact rfl
   ·have hc5b := hc5
    have hc5 := (bne_eq_false_iff_eq.1) hc5
    have e1 : errM l fr to_ wd tab 10000 = 0 := hE1 ▸ hc5
    have hwd := errM_zero.1 e1
    refine RW.val (by rfl) (by kernel_rfl) rfl (by kernel_rfl) ?_
    refine RW.len (by rfl) (by kernel_rfl) rfl rfl rfl rfl (hv1.slf.len (e := 39) (by kernel_rfl)) (by kernel_rfl) ?_
    refine RW.val (by rfl) (by kernel_rfl) rfl (by kernel_rfl) ?_
    refine RW.v ?_
    refine RW.nil ?_
    refine W.rg [(1, .int .i64 fr), (2, .int .i64 to_), (3, .int .i64 wd), (13, .bool true), (14, u1), (15, .int .i64 E1), (52, .bool ((A1.length : Int) == 10000))] fun TA => ?_
    refine W.cond rfl (fun hc6 => ?_) (fun hc6 => ?_)
    ·have hc6b := hc6
     have hc6 := eq_of_beq hc6
     refine W.seq (W.region ?_)
     iterate 2 refine RW.v ?_
     refine RW.val (by rfl) (by kernel_rfl) rfl (by kernel_rfl) ?_
     refine RW.valE (v' := .bool true) (by rfl) (by kernel_rfl) rfl (congrArg Value.bool (beq_iff_eq.2 (by omega))) (by kernel_rfl) ?_
     refine RW.val (by rfl) (by kernel_rfl) rfl (by kernel_rfl) ?_
     refine RW.skip (by rfl) (by kernel_rfl) ?_
     refine RW.skip (by rfl) (by kernel_rfl) ?_
     refine RW.skip (by rfl) (by kernel_rfl) ?_
     refine RW.val (by rfl) (by kernel_rfl) rfl (by kernel_rfl) ?_
     iterate 2 refine RW.v ?_
     refine RW.nil ?_
     refine W.ret ?_
     refine seqQ_ret ?_
     refine endG (by rfl) (by exact resL_tmp rfl) ?_
     exact rfl
    ·have hc6b := hc6
     have hc6 := ne_of_beq_false hc6
     have hne : A1.length ≠ 10000 := by omega
     refine W.skip ?_
     refine W.seq (W.region ?_)
     iterate 2 refine RW.v ?_
     refine RW.nil ?_
     refine W.rg [(2, .int .i64 to_), (3, .int .i64 wd), (13, .bool true), (14, u1), (16, .int .i64 fr)] fun TA => ?_
     refine W.seq ?_
     refine W.seq (W.region ?_)
     refine RW.v ?_
     refine RW.nil ?_
     refine W.rg [(2, .int .i64 to_), (3, .int .i64 wd), (13, .bool true), (14, u1), (16, .int .i64 fr), (17, .int .i64 0)] fun TA => ?_
     refine W.block ?_
     obtain ⟨g1, g2, g3⟩ := places e1 hA1 hne
     refine W.loop (fun mm ta σ => ∃ (i : Nat) (m : Int), (mm + i = A1.length) ∧ (GoodR to_ wd.toNat m (A1.drop i)) ∧ Lies G Abs.no F σ (([])) ∧ ta 2 = .int .i64 to_ ∧ ta 3 = .int .i64 wd ∧ ta 13 = .bool true ∧ ta 14 = u1 ∧ ta 16 = .int .i64 m ∧ ta 17 = .int .i64 ((i : Nat) : Int)) A1.length ?_ ?_
     ·exact ⟨0, fr, (by omega), g2, H, rfl, rfl, rfl, rfl, rfl, rfl⟩
     clear H
     rintro mm ta _ ⟨i, m, hm, hg, H, e2, e3, e13, e14, e16, e17⟩
     refine W.rst [(2, .int .i64 to_), (3, .int .i64 wd), (13, .bool true), (14, u1), (16, .int .i64 m), (17, .int .i64 ((i : Nat) : Int))] ⟨e2, e3, e13, e14, e16, e17, trivial⟩ fun TA => ?_
     clear e2 e3 e13 e14 e16 e17
     refine W.seq ?_
     refine W.seq (W.region ?_)
     iterate 2 refine RW.v ?_
     refine RW.len (by kernel_rfl) (by kernel_rfl) rfl rfl rfl rfl (hv1.slf.len (e := 39) (by kernel_rfl)) (by kernel_rfl) ?_
     refine RW.v ?_
     refine RW.nil ?_
     refine W.rg [(2, .int .i64 to_), (3, .int .i64 wd), (13, .bool true), (14, u1), (16, .int .i64 m), (17, .int .i64 ((i : Nat) : Int)), (67, .bool (decide (((i : Nat) : Int) < (A1.length : Int))))] fun TA => ?_
     refine W.cond rfl (fun hc7 => ?_) (fun hc7 => ?_)
     ·have hc7b := hc7
      have hc7 := of_decide_eq_true hc7
      have hil : i < A1.length := by omega
      rw [drop_get hil] at hg
      obtain ⟨hC, hP, h3, h4, h5, h6⟩ := hg
      have hto := g3 i hil
      refine W.skip ?_
      refine W.seq ?_
      refine W.block ?_
      refine W.seq (W.region ?_)
      iterate 2 refine RW.v ?_
      refine RW.idxF hv1.slf (by kernel_rfl) (by kernel_rfl) rfl Tryd.underlying27 (by kernel_rfl) rfl rfl ⟨by omega, by omega⟩ (by kernel_rfl) ?_
      intro b8 q9 r10 hF11 hE12
      rw [rowsV_ati (l := A1) (j := i) al1.1 al1.2.1 (by omega)] at hE12
      refine RW.loads 5 (by kernel_rfl) (by kernel_rfl) rfl rfl (H.old _ _ hF11) hE12 rfl (by kernel_rfl) ?_
      refine RW.mk H (.row ⟨[.slice none 0 0, .slice none 0 0, .int .i64 0, .int .i64 0, .bool false], 39, false⟩) ?_
      clear H; intro _ b13 _ H
      refine RW.stL H 0 (vs := [(ds1.getD i undef), (qs1.getD i undef), .int .i64 ((A1.getD i default).fr), .int .i64 ((A1.getD i default).to), .bool ((A1.getD i default).co)]) (cs' := [(ds1.getD i undef), (qs1.getD i undef), .int .i64 ((A1.getD i default).fr), .int .i64 ((A1.getD i default).to), .bool ((A1.getD i default).co)]) (by kernel_rfl) (by kernel_rfl) rfl rfl rfl (by rcases slf_forms (al1.2.2 i (by omega)).1 with e0 | ⟨_, e0⟩ | ⟨_, _, _, _, _, e0⟩ <;> rcases slf_forms (al1.2.2 i (by omega)).2 with e1 | ⟨_, e1⟩ | ⟨_, _, _, _, _, e1⟩ <;> rw [e0, e1] <;> rfl) (by rcases slf_forms (al1.2.2 i (by omega)).1 with e0 | ⟨_, e0⟩ | ⟨_, _, _, _, _, e0⟩ <;> rcases slf_forms (al1.2.2 i (by omega)).2 with e1 | ⟨_, e1⟩ | ⟨_, _, _, _, _, e1⟩ <;> rw [e0, e1] <;> rfl) (by kernel_rfl) (Nat.le_of_ble_eq_true rfl) rfl (by kernel_rfl) ?_
      clear H; intro _ _ H; dsimp only [setL, delL] at H
      refine RW.nil ?_
      refine W.rg [(2, .int .i64 to_), (3, .int .i64 wd), (13, .bool true), (14, u1), (16, .int .i64 m), (17, .int .i64 ((i : Nat) : Int)), (18, .pointer (some ⟨b13, 0, none⟩))] fun TA => ?_
      refine W.seq (W.region ?_)
      iterate 2 refine RW.v ?_
      refine RW.nil ?_
      refine W.rg [(2, .int .i64 to_), (3, .int .i64 wd), (13, .bool true), (14, u1), (16, .int .i64 m), (17, .int .i64 ((i : Nat) : Int)), (18, .pointer (some ⟨b13, 0, none⟩)), (19, .int .i64 to_)] fun TA => ?_
      refine W.join (fun ta σ => ∃ (nx : Int), ((A1.getD i default).to = nx) ∧ Lies G Abs.no F σ (.at_ b13 (.row ⟨[(ds1.getD i undef), (qs1.getD i undef), .int .i64 ((A1.getD i default).fr), .int .i64 ((A1.getD i default).to), .bool ((A1.getD i default).co)], 39, false⟩) :: ([])) ∧ ta 2 = .int .i64 to_ ∧ ta 3 = .int .i64 wd ∧ ta 13 = .bool true ∧ ta 14 = u1 ∧ ta 16 = .int .i64 m ∧ ta 17 = .int .i64 ((i : Nat) : Int) ∧ ta 18 = .pointer (some ⟨b13, 0, none⟩) ∧ ta 19 = .int .i64 nx) ?_ ?_
      ·refine W.seq (W.region ?_)
       refine RW.v ?_
       refine RW.valE (v' := .int .i64 (((i : Nat) : Int) + 1)) (by kernel_rfl) (by kernel_rfl) rfl (congrArg (Value.int .i64) (wrap_in (by omega) (by omega))) (by kernel_rfl) ?_
       refine RW.v ?_
       refine RW.len (by kernel_rfl) (by kernel_rfl) rfl rfl rfl rfl (hv1.slf.len (e := 39) (by kernel_rfl)) (by kernel_rfl) ?_
       refine RW.v ?_
       refine RW.nil ?_
       refine W.rg [(2, .int .i64 to_), (3, .int .i64 wd), (13, .bool true), (14, u1), (16, .int .i64 m), (17, .int .i64 ((i : Nat) : Int)), (18, .pointer (some ⟨b13, 0, none⟩)), (19, .int .i64 to_), (79, .bool (decide ((((i : Nat) : Int) + 1) < (A1.length : Int))))] fun TA => ?_
       refine W.cond rfl (fun hc14 => ?_) (fun hc14 => ?_)
       ·have hc14b := hc14
        have hc14 := of_decide_eq_true hc14
        refine W.region ?_
        iterate 2 refine RW.v ?_
        refine RW.valE (v' := .int .i64 (((i : Nat) : Int) + 1)) (by kernel_rfl) (by kernel_rfl) rfl (congrArg (Value.int .i64) (wrap_in (by omega) (by omega))) (by kernel_rfl) ?_
        refine RW.idxF hv1.slf (by kernel_rfl) (by kernel_rfl) rfl Tryd.underlying27 (by kernel_rfl) rfl rfl ⟨by omega, by omega⟩ (by kernel_rfl) ?_
        intro b15 q16 r17 hF18 hE19
        rw [rowsV_at (l := A1) (j := (((i : Nat) : Int) + 1).toNat) al1.1 al1.2.1 (by omega)] at hE19
        refine RW.v ?_
        refine RW.loads 1 (by kernel_rfl) (by kernel_rfl) rfl rfl (H.old _ _ hF18) (sub_take hE19 2 1 (by decide)) rfl (by kernel_rfl) ?_
        refine RW.v ?_
        refine RW.nil ?_
        exact ⟨rfl, rfl, (A1.getD ((((i : Nat) : Int) + 1).toNat) default).fr, (by rw [hto, if_pos (by omega), show (((i : Nat) : Int) + 1).toNat = i + 1 by omega]), H, rfl, rfl, rfl, rfl, rfl, rfl, rfl, rfl⟩
       ·have hc14b := hc14
        have hc14 := of_decide_eq_false hc14
        refine W.skip ?_
        exact ⟨rfl, rfl, to_, (by rw [hto, if_neg (by omega)]), H, rfl, rfl, rfl, rfl, rfl, rfl, rfl, rfl⟩
      clear H
      rintro ta _ ⟨nx, hnx, H, e2, e3, e13, e14, e16, e17, e18, e19⟩
      refine W.rst [(2, .int .i64 to_), (3, .int .i64 wd), (13, .bool true), (14, u1), (16, .int .i64 m), (17, .int .i64 ((i : Nat) : Int)), (18, .pointer (some ⟨b13, 0, none⟩)), (19, .int .i64 nx)] ⟨e2, e3, e13, e14, e16, e17, e18, e19, trivial⟩ fun TA => ?_
      clear e2 e3 e13 e14 e16 e17 e18 e19
      refine W.seq ?_
      refine W.seq (W.region ?_)
      refine RW.v ?_
      refine RW.ld H 0 1 ?_
      refine RW.len (by kernel_rfl) (by kernel_rfl) rfl rfl rfl rfl ((al1.2.2 i (by omega)).1.len (e := 79) (by kernel_rfl)) (by kernel_rfl) ?_
      refine RW.v ?_
      refine RW.valE (v' := .bool false) (by kernel_rfl) (by kernel_rfl) rfl (congrArg Value.bool (bne_eq_false_iff_eq.2 (by omega))) (by kernel_rfl) ?_
      refine RW.v ?_
      refine RW.val (by rfl) (by kernel_rfl) rfl (by kernel_rfl) ?_
      refine RW.ldL H 0 1 (by rfl) (by kernel_rfl) rfl rfl rfl rfl rfl (by kernel_rfl) ?_
      refine RW.len (by rfl) (by kernel_rfl) rfl rfl rfl rfl ((al1.2.2 i (by omega)).2.len (e := 3) (by kernel_rfl)) (by kernel_rfl) ?_
      refine RW.val (by rfl) (by kernel_rfl) rfl (by kernel_rfl) ?_
      refine RW.valE (v' := .bool false) (by rfl) (by kernel_rfl) rfl (congrArg Value.bool (bne_eq_false_iff_eq.2 (by omega))) (by kernel_rfl) ?_
      iterate 2 refine RW.v ?_
      refine RW.val (by rfl) (by kernel_rfl) rfl (by kernel_rfl) ?_
      refine RW.ldL H 0 1 (by rfl) (by kernel_rfl) rfl rfl rfl rfl rfl (by kernel_rfl) ?_
      refine RW.val (by rfl) (by kernel_rfl) rfl (by kernel_rfl) ?_
      refine RW.valE (v' := .bool false) (by rfl) (by kernel_rfl) rfl (congrArg Value.bool (bne_eq_false_iff_eq.2 (by omega))) (by kernel_rfl) ?_
      iterate 2 refine RW.v ?_
      refine RW.val (by rfl) (by kernel_rfl) rfl (by kernel_rfl) ?_
      refine RW.ldL H 0 1 (by rfl) (by kernel_rfl) rfl rfl rfl rfl rfl (by kernel_rfl) ?_
      refine RW.val (by rfl) (by kernel_rfl) rfl (by kernel_rfl) ?_
      refine RW.valE (v' := .bool false) (by rfl) (by kernel_rfl) rfl (congrArg Value.bool (decide_eq_false (by omega))) (by kernel_rfl) ?_
      iterate 2 refine RW.v ?_
      refine RW.val (by rfl) (by kernel_rfl) rfl (by kernel_rfl) ?_
      refine RW.ldL H 0 1 (by rfl) (by kernel_rfl) rfl rfl rfl rfl rfl (by kernel_rfl) ?_
      refine RW.val (by rfl) (by kernel_rfl) rfl (by kernel_rfl) ?_
      refine RW.ldL H 0 1 (by rfl) (by kernel_rfl) rfl rfl rfl rfl rfl (by kernel_rfl) ?_
      refine RW.valE (v' := .bool false) (by rfl) (by kernel_rfl) rfl (congrArg Value.bool (decide_eq_false (by omega))) (by kernel_rfl) ?_
      refine RW.v ?_
      refine RW.nil ?_
      refine W.c0 ?_
      refine W.skip ?_
      refine W.seq (W.region ?_)
      refine RW.v ?_
      refine RW.nil ?_
      refine W.rg [(2, .int .i64 to_), (3, .int .i64 wd), (13, .bool true), (14, u1), (16, .int .i64 m), (17, .int .i64 ((i : Nat) : Int)), (18, .pointer (some ⟨b13, 0, none⟩)), (20, .int .i64 0)] fun TA => ?_
      refine W.block ?_
      refine W.loop (fun mm2 ta σ => ∃ (k : Nat) (z : Int), (mm2 + k = wd.toNat) ∧ (z = lastS m ((A1.getD i default).P.take k)) ∧ Lies G Abs.no F σ (.at_ b13 (.row ⟨[(ds1.getD i undef), (qs1.getD i undef), .int .i64 ((A1.getD i default).fr), .int .i64 ((A1.getD i default).to), .bool ((A1.getD i default).co)], 39, false⟩) :: ([])) ∧ ta 2 = .int .i64 to_ ∧ ta 3 = .int .i64 wd ∧ ta 13 = .bool true ∧ ta 14 = u1 ∧ ta 16 = .int .i64 z ∧ ta 17 = .int .i64 ((i : Nat) : Int) ∧ ta 18 = .pointer (some ⟨b13, 0, none⟩) ∧ ta 20 = .int .i64 ((k : Nat) : Int)) wd.toNat ?_ ?_
      ·exact ⟨0, m, (by omega), rfl, H, rfl, rfl, rfl, rfl, rfl, rfl, rfl, rfl⟩
      clear H
      rintro mm2 ta _ ⟨k, z, hm2, hz, H, e2, e3, e13, e14, e16, e17, e18, e20⟩
      refine W.rst [(2, .int .i64 to_), (3, .int .i64 wd), (13, .bool true), (14, u1), (16, .int .i64 z), (17, .int .i64 ((i : Nat) : Int)), (18, .pointer (some ⟨b13, 0, none⟩)), (20, .int .i64 ((k : Nat) : Int))] ⟨e2, e3, e13, e14, e16, e17, e18, e20, trivial⟩ fun TA => ?_
      clear e2 e3 e13 e14 e16 e17 e18 e20
      refine W.seq ?_
      refine W.seq (W.region ?_)
      iterate 3 refine RW.v ?_
      refine RW.nil ?_
      refine W.rg [(2, .int .i64 to_), (3, .int .i64 wd), (13, .bool true), (14, u1), (16, .int .i64 z), (17, .int .i64 ((i : Nat) : Int)), (18, .pointer (some ⟨b13, 0, none⟩)), (20, .int .i64 ((k : Nat) : Int)), (119, .bool (decide (((k : Nat) : Int) < wd)))] fun TA => ?_
      refine W.cond rfl (fun hc20 => ?_) (fun hc20 => ?_)
      ·have hc20b := hc20
       have hc20 := of_decide_eq_true hc20
       refine W.skip ?_
       refine W.seq ?_
       refine W.block ?_
       refine W.seq ?_
       refine W.seq (W.region ?_)
       refine RW.v ?_
       refine RW.ld H 0 1 ?_
       refine RW.v ?_
       refine RW.idxF (al1.2.2 i (by omega)).2 (by kernel_rfl) (by kernel_rfl) rfl Tryd.underlying37 (by kernel_rfl) rfl rfl ⟨by omega, by omega⟩ (by kernel_rfl) ?_
       intro b21 q22 r23 hF24 hE25
       rw [ints_at (l := (A1.getD i default).P) (j := k) (by omega)] at hE25
       refine RW.loads 1 (by kernel_rfl) (by kernel_rfl) rfl rfl (H.old _ _ hF24) hE25 rfl (by kernel_rfl) ?_
       refine RW.v ?_
       refine RW.nil ?_
       refine W.rg [(2, .int .i64 to_), (3, .int .i64 wd), (13, .bool true), (14, u1), (16, .int .i64 z), (17, .int .i64 ((i : Nat) : Int)), (18, .pointer (some ⟨b13, 0, none⟩)), (20, .int .i64 ((k : Nat) : Int)), (127, .bool (((A1.getD i default).P.getD k 0) == (-1)))] fun TA => ?_
       refine W.cond rfl (fun hc26 => ?_) (fun hc26 => ?_)
       ·have hc26b := hc26
        have hc26 := eq_of_beq hc26
        refine W.exit _ ?_
        refine seqQ_exit ?_
        refine blkQ_here ?_
        refine W.region ?_
        refine RW.v ?_
        refine RW.valE (v' := .int .i64 (((k : Nat) : Int) + 1)) (by kernel_rfl) (by kernel_rfl) rfl (congrArg (Value.int .i64) (wrap_in (by omega) (by omega))) (by kernel_rfl) ?_
        refine RW.v ?_
        refine RW.nil ?_
        exact ⟨rfl, mm2 - 1, by omega, k + 1, z, (by omega), (by rw [lastS_snoc (show k < (A1.getD i default).P.length by omega), ← hz]; rw [if_pos hc26]), H, rfl, rfl, rfl, rfl, rfl, rfl, rfl, rfl⟩
       ·have hc26b := hc26
        have hc26 := ne_of_beq_false hc26
        obtain ⟨hup1, hup2⟩ := h5 k (by omega) hc26
        rw [← hz] at hup1
        obtain ⟨a, b, hw1a, hw1b, hw1c, hw1d, hw1e⟩ := where_at hil (show k < (A1.getD i default).P.length by omega) hc26
        refine W.skip ?_
        refine W.seq (W.region ?_)
        iterate 3 refine RW.v ?_
        refine RW.cl ?_
        refine ((p_at hv1.slf al1 (by omega) hw1 H).mono ?_)
        clear H
        rw [at_at hil (show k < (A1.getD i default).P.length by omega) hc26]
        rintro _ _ ⟨rfl, H⟩
        iterate 5 refine RW.v ?_
        refine RW.nil ?_
        refine W.rg [(2, .int .i64 to_), (3, .int .i64 wd), (13, .bool true), (14, u1), (16, .int .i64 z), (17, .int .i64 ((i : Nat) : Int)), (18, .pointer (some ⟨b13, 0, none⟩)), (20, .int .i64 ((k : Nat) : Int)), (21, .int .i64 ((A1.getD i default).P.getD k 0)), (22, .bool true)] fun TA => ?_
        refine W.seq (W.region ?_)
        iterate 2 refine RW.v ?_
        refine RW.ld H 0 1 ?_
        refine RW.v ?_
        refine RW.idxF (al1.2.2 i (by omega)).2 (by kernel_rfl) (by kernel_rfl) rfl Tryd.underlying37 (by kernel_rfl) rfl rfl ⟨by omega, by omega⟩ (by kernel_rfl) ?_
        intro b27 q28 r29 hF30 hE31
        rw [ints_at (l := (A1.getD i default).P) (j := k) (by omega)] at hE31
        refine RW.loads 1 (by kernel_rfl) (by kernel_rfl) rfl rfl (H.old _ _ hF30) hE31 rfl (by kernel_rfl) ?_
        refine RW.cl ?_
        refine ((p_where hv1.slf al1 (by omega) hw1 H).mono ?_)
        clear H
        rw [hw1a]
        rintro _ _ ⟨rfl, H⟩
        iterate 7 refine RW.v ?_
        refine RW.nil ?_
        refine W.rg [(2, .int .i64 to_), (3, .int .i64 wd), (13, .bool true), (14, u1), (16, .int .i64 z), (17, .int .i64 ((i : Nat) : Int)), (18, .pointer (some ⟨b13, 0, none⟩)), (20, .int .i64 ((k : Nat) : Int)), (21, .int .i64 ((A1.getD i default).P.getD k 0)), (22, .bool true), (23, .int .i64 ((a : Nat) : Int)), (24, .int .i64 ((b : Nat) : Int)), (25, .bool true)] fun TA => ?_
        refine W.seq ?_
        refine W.seq (W.region ?_)
        refine RW.v ?_
        refine RW.ld H 0 1 ?_
        refine RW.v ?_
        refine RW.idxF (al1.2.2 i (by omega)).2 (by kernel_rfl) (by kernel_rfl) rfl Tryd.underlying37 (by kernel_rfl) rfl rfl ⟨by omega, by omega⟩ (by kernel_rfl) ?_
        intro b32 q33 r34 hF35 hE36
        rw [ints_at (l := (A1.getD i default).P) (j := k) (by omega)] at hE36
        refine RW.loads 1 (by kernel_rfl) (by kernel_rfl) rfl rfl (H.old _ _ hF35) hE36 rfl (by kernel_rfl) ?_
        refine RW.v ?_
        refine RW.valE (v' := .bool false) (by kernel_rfl) (by kernel_rfl) rfl (congrArg Value.bool (decide_eq_false (by omega))) (by kernel_rfl) ?_
        refine RW.v ?_
        refine RW.val (by rfl) (by kernel_rfl) rfl (by kernel_rfl) ?_
        refine RW.ldL H 0 1 (by rfl) (by kernel_rfl) rfl rfl rfl rfl rfl (by kernel_rfl) ?_
        refine RW.val (by rfl) (by kernel_rfl) rfl (by kernel_rfl) ?_
        refine RW.idxF (al1.2.2 i (by omega)).2 (by rfl) (by kernel_rfl) rfl Tryd.underlying37 (by kernel_rfl) rfl rfl ⟨by omega, by omega⟩ (by kernel_rfl) ?_
        intro b37 q38 r39 hF40 hE41
        rw [ints_at (l := (A1.getD i default).P) (j := k) (by omega)] at hE41
        refine RW.loads 1 (by rfl) (by kernel_rfl) rfl rfl (H.old _ _ hF40) hE41 rfl (by kernel_rfl) ?_
        refine RW.val (by rfl) (by kernel_rfl) rfl (by kernel_rfl) ?_
        refine RW.valE (v' := .bool false) (by rfl) (by kernel_rfl) rfl (congrArg Value.bool (decide_eq_false (by omega))) (by kernel_rfl) ?_
        iterate 2 refine RW.v ?_
        refine RW.val (by rfl) (by kernel_rfl) rfl (by kernel_rfl) ?_
        refine RW.val (by rfl) (by kernel_rfl) rfl (by kernel_rfl) ?_
        iterate 2 refine RW.v ?_
        refine RW.val (by rfl) (by kernel_rfl) rfl (by kernel_rfl) ?_
        refine RW.val (by rfl) (by kernel_rfl) rfl (by kernel_rfl) ?_
        refine RW.ldL H 0 1 (by rfl) (by kernel_rfl) rfl rfl rfl rfl rfl (by kernel_rfl) ?_
        refine RW.val (by rfl) (by kernel_rfl) rfl (by kernel_rfl) ?_
        refine RW.idxF (al1.2.2 i (by omega)).2 (by rfl) (by kernel_rfl) rfl Tryd.underlying37 (by kernel_rfl) rfl rfl ⟨by omega, by omega⟩ (by kernel_rfl) ?_
        intro b42 q43 r44 hF45 hE46
        rw [ints_at (l := (A1.getD i default).P) (j := k) (by omega)] at hE46
        refine RW.loads 1 (by rfl) (by kernel_rfl) rfl rfl (H.old _ _ hF45) hE46 rfl (by kernel_rfl) ?_
        refine RW.valE (v' := .bool false) (by rfl) (by kernel_rfl) rfl (congrArg Value.bool (bne_eq_false_iff_eq.2 (by rfl))) (by kernel_rfl) ?_
        iterate 2 refine RW.v ?_
        refine RW.val (by rfl) (by kernel_rfl) rfl (by kernel_rfl) ?_
        refine RW.val (by rfl) (by kernel_rfl) rfl (by kernel_rfl) ?_
        iterate 2 refine RW.v ?_
        refine RW.val (by rfl) (by kernel_rfl) rfl (by kernel_rfl) ?_
        refine RW.val (by rfl) (by kernel_rfl) rfl (by kernel_rfl) ?_
        refine RW.valE (v' := .bool false) (by rfl) (by kernel_rfl) rfl (congrArg Value.bool (decide_eq_false (by omega))) (by kernel_rfl) ?_
        iterate 2 refine RW.v ?_
        refine RW.val (by rfl) (by kernel_rfl) rfl (by kernel_rfl) ?_
        refine RW.val (by rfl) (by kernel_rfl) rfl (by kernel_rfl) ?_
        refine RW.val (by rfl) (by kernel_rfl) rfl (by kernel_rfl) ?_
        refine RW.val (by rfl) (by kernel_rfl) rfl (by kernel_rfl) ?_
        refine RW.both _ _ rfl rfl rfl (fun hc47 => ?_) (fun hc47 => ?_)
        ·have hc47b := hc47
         have hc47 := eq_of_beq hc47
         refine RW.val (by rfl) (by kernel_rfl) rfl (by kernel_rfl) ?_
         refine RW.val (by rfl) (by kernel_rfl) rfl (by kernel_rfl) ?_
         refine RW.valE (v' := .bool false) (by rfl) (by kernel_rfl) rfl (congrArg Value.bool (decide_eq_false (by omega))) (by kernel_rfl) ?_
         refine RW.val (by rfl) (by kernel_rfl) rfl (by kernel_rfl) ?_
         iterate 2 refine RW.v ?_
         refine RW.val (by rfl) (by kernel_rfl) rfl (by kernel_rfl) ?_
         refine RW.val (by rfl) (by kernel_rfl) rfl (by kernel_rfl) ?_
         refine RW.idxF hv1.slf (by rfl) (by kernel_rfl) rfl Tryd.underlying27 (by kernel_rfl) rfl rfl ⟨by omega, by omega⟩ (by kernel_rfl) ?_
         intro b48 q49 r50 hF51 hE52
         rw [rowsV_ati (l := A1) (j := a) al1.1 al1.2.1 (by omega)] at hE52
         refine RW.val (by rfl) (by kernel_rfl) rfl (by kernel_rfl) ?_
         refine RW.loads 1 (by rfl) (by kernel_rfl) rfl rfl (H.old _ _ hF51) (sub_take hE52 1 1 (by decide)) rfl (by kernel_rfl) ?_
         refine RW.val (by rfl) (by kernel_rfl) rfl (by kernel_rfl) ?_
         refine RW.idxF (al1.2.2 a (by omega)).2 (by rfl) (by kernel_rfl) rfl Tryd.underlying37 (by kernel_rfl) rfl rfl ⟨by omega, by omega⟩ (by kernel_rfl) ?_
         intro b53 q54 r55 hF56 hE57
         rw [ints_at (l := (A1.getD a default).P) (j := b) (by omega)] at hE57
         refine RW.loads 1 (by rfl) (by kernel_rfl) rfl rfl (H.old _ _ hF56) hE57 rfl (by kernel_rfl) ?_
         refine RW.val (by rfl) (by kernel_rfl) rfl (by kernel_rfl) ?_
         refine RW.valE (v' := .bool false) (by rfl) (by kernel_rfl) rfl (congrArg Value.bool (bne_eq_false_iff_eq.2 (by omega))) (by kernel_rfl) ?_
         refine RW.v ?_
         refine RW.nil ?_
         refine W.c0 ?_
         refine W.skip ?_
         refine W.region ?_
         refine RW.v ?_
         refine RW.ld H 0 1 ?_
         refine RW.v ?_
         refine RW.idxF (al1.2.2 i (by omega)).2 (by kernel_rfl) (by kernel_rfl) rfl Tryd.underlying37 (by kernel_rfl) rfl rfl ⟨by omega, by omega⟩ (by kernel_rfl) ?_
         intro b58 q59 r60 hF61 hE62
         rw [ints_at (l := (A1.getD i default).P) (j := k) (by omega)] at hE62
         refine RW.loads 1 (by kernel_rfl) (by kernel_rfl) rfl rfl (H.old _ _ hF61) hE62 rfl (by kernel_rfl) ?_
         refine RW.v ?_
         refine RW.nil ?_
         refine blkQ_normal ?_
         refine W.rg [(2, .int .i64 to_), (3, .int .i64 wd), (13, .bool true), (14, u1), (16, .int .i64 ((A1.getD i default).P.getD k 0)), (17, .int .i64 ((i : Nat) : Int)), (18, .pointer (some ⟨b13, 0, none⟩)), (20, .int .i64 ((k : Nat) : Int))] fun TA => ?_
         refine W.region ?_
         refine RW.v ?_
         refine RW.valE (v' := .int .i64 (((k : Nat) : Int) + 1)) (by kernel_rfl) (by kernel_rfl) rfl (congrArg (Value.int .i64) (wrap_in (by omega) (by omega))) (by kernel_rfl) ?_
         refine RW.v ?_
         refine RW.nil ?_
         exact ⟨rfl, mm2 - 1, by omega, k + 1, ((A1.getD i default).P.getD k 0), (by omega), (by rw [lastS_snoc (show k < (A1.getD i default).P.length by omega), ← hz]; rw [if_neg hc26]), H, rfl, rfl, rfl, rfl, rfl, rfl, rfl, rfl⟩
        ·have hc47b := hc47
         have hc47 := ne_of_beq_false hc47
         refine RW.skip (by rfl) (by kernel_rfl) ?_
         refine RW.skip (by rfl) (by kernel_rfl) ?_
         refine RW.skip (by rfl) (by kernel_rfl) ?_
         refine RW.val (by rfl) (by kernel_rfl) rfl (by kernel_rfl) ?_
         iterate 2 refine RW.v ?_
         refine RW.val (by rfl) (by kernel_rfl) rfl (by kernel_rfl) ?_
         refine RW.val (by rfl) (by kernel_rfl) rfl (by kernel_rfl) ?_
         refine RW.idxF hv1.slf (by rfl) (by kernel_rfl) rfl Tryd.underlying27 (by kernel_rfl) rfl rfl ⟨by omega, by omega⟩ (by kernel_rfl) ?_
         intro b63 q64 r65 hF66 hE67
         rw [rowsV_ati (l := A1) (j := a) al1.1 al1.2.1 (by omega)] at hE67
         refine RW.val (by rfl) (by kernel_rfl) rfl (by kernel_rfl) ?_
         refine RW.loads 1 (by rfl) (by kernel_rfl) rfl rfl (H.old _ _ hF66) (sub_take hE67 1 1 (by decide)) rfl (by kernel_rfl) ?_
         refine RW.val (by rfl) (by kernel_rfl) rfl (by kernel_rfl) ?_
         refine RW.idxF (al1.2.2 a (by omega)).2 (by rfl) (by kernel_rfl) rfl Tryd.underlying37 (by kernel_rfl) rfl rfl ⟨by omega, by omega⟩ (by kernel_rfl) ?_
         intro b68 q69 r70 hF71 hE72
         rw [ints_at (l := (A1.getD a default).P) (j := b) (by omega)] at hE72
         refine RW.loads 1 (by rfl) (by kernel_rfl) rfl rfl (H.old _ _ hF71) hE72 rfl (by kernel_rfl) ?_
         refine RW.val (by rfl) (by kernel_rfl) rfl (by kernel_rfl) ?_
         refine RW.valE (v' := .bool false) (by rfl) (by kernel_rfl) rfl (congrArg Value.bool (bne_eq_false_iff_eq.2 (by omega))) (by kernel_rfl) ?_
         refine RW.v ?_
         refine RW.nil ?_
         refine W.c0 ?_
         refine W.skip ?_
         refine W.region ?_
         refine RW.v ?_
         refine RW.ld H 0 1 ?_
         refine RW.v ?_
         refine RW.idxF (al1.2.2 i (by omega)).2 (by kernel_rfl) (by kernel_rfl) rfl Tryd.underlying37 (by kernel_rfl) rfl rfl ⟨by omega, by omega⟩ (by kernel_rfl) ?_
         intro b73 q74 r75 hF76 hE77
         rw [ints_at (l := (A1.getD i default).P) (j := k) (by omega)] at hE77
         refine RW.loads 1 (by kernel_rfl) (by kernel_rfl) rfl rfl (H.old _ _ hF76) hE77 rfl (by kernel_rfl) ?_
         refine RW.v ?_
         refine RW.nil ?_
         refine blkQ_normal ?_
         refine W.rg [(2, .int .i64 to_), (3, .int .i64 wd), (13, .bool true), (14, u1), (16, .int .i64 ((A1.getD i default).P.getD k 0)), (17, .int .i64 ((i : Nat) : Int)), (18, .pointer (some ⟨b13, 0, none⟩)), (20, .int .i64 ((k : Nat) : Int))] fun TA => ?_
         refine W.region ?_
         refine RW.v ?_
         refine RW.valE (v' := .int .i64 (((k : Nat) : Int) + 1)) (by kernel_rfl) (by kernel_rfl) rfl (congrArg (Value.int .i64) (wrap_in (by omega) (by omega))) (by kernel_rfl) ?_
         refine RW.v ?_
         refine RW.nil ?_
         exact ⟨rfl, mm2 - 1, by omega, k + 1, ((A1.getD i default).P.getD k 0), (by omega), (by rw [lastS_snoc (show k < (A1.getD i default).P.length by omega), ← hz]; rw [if_neg hc26]), H, rfl, rfl, rfl, rfl, rfl, rfl, rfl, rfl⟩
      ·have hc20b := hc20
       have hc20 := of_decide_eq_false hc20
       refine W.exit _ ?_
       refine seqQ_exit ?_
       refine rndQ_exit ?_
       refine blkQ_here ?_
       refine blkQ_normal ?_
       refine W.region ?_
       refine RW.v ?_
       refine RW.valE (v' := .int .i64 (((i : Nat) : Int) + 1)) (by kernel_rfl) (by kernel_rfl) rfl (congrArg (Value.int .i64) (wrap_in (by omega) (by omega))) (by kernel_rfl) ?_
       refine RW.v ?_
       refine RW.nil ?_
       replace H := (H.del 0)
       dsimp only [setL, delL] at H
       exact ⟨rfl, mm - 1, by omega, i + 1, z, (by omega), (by rw [hz, List.take_of_length_le (by omega)]; exact h6), H, rfl, rfl, rfl, rfl, rfl, rfl⟩
     ·have hc7b := hc7
      have hc7 := of_decide_eq_false hc7
      refine W.exit _ ?_
      refine seqQ_exit ?_
      refine rndQ_exit ?_
      refine blkQ_here ?_
      refine W.seq (W.region ?_)
      iterate 2 refine RW.v ?_
      refine RW.val (by rfl) (by kernel_rfl) rfl (by kernel_rfl) ?_
      refine RW.len (by rfl) (by kernel_rfl) rfl rfl rfl rfl (hv1.slf.len (e := 39) (by kernel_rfl)) (by kernel_rfl) ?_
      refine RW.valE (v' := .bool true) (by rfl) (by kernel_rfl) rfl (congrArg Value.bool (decide_eq_true (by omega))) (by kernel_rfl) ?_
      iterate 2 refine RW.v ?_
      refine RW.nil ?_
      refine W.ret ?_
      refine endG (by rfl) (by exact resL_tmp rfl) ?_
      exact rfl
end Go.Proofs.YtmmapljeeccdnaaDoor
