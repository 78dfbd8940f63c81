/-
  stores() of the heap's laws in the second memory: it answers true. Conditions: the tables of unicode/utf8 lie as laid.
  HeapNames answers true in every world. Conditions: the tables of unicode/utf8 lie as laid.
-/
import Derived.Test.YthmfiahmfdadgaaDoorH2
import Derived.Test.YthmfiahmfdadgaaDoorS3
namespace Go.Proofs.YthmfiahmfdadgaaDoor
open Go.RowKit
set_option maxRecDepth 100000
theorem hmE_noCode {s : ByteArray} {l : List Wd} {i : Nat} {x y z : Int} {bs : List Int} {cs : List Wd} : (hmE s l).objs[i]? ≠ some (some (HObj.code x y z bs cs)) := fun e => by
  have := List.mem_of_getElem? e
  simp [hmE] at this
theorem hmE_texts {s : ByteArray} {l : List Wd} (h : s.size ≤ 1000000000000) : (hmE s l).Texts := fun i t e => by
  have := List.mem_of_getElem? e
  simp [hmE] at this
  rcases this with rfl | rfl
  · exact h
  · decide
set_option maxHeartbeats 8000000 in
theorem stores_wc {G : Nat} {σ0 : Mem} (hG : G ≤ σ0.next) (h16 : 16 ≤ G) (hR : RowsAt rowsU σ0) (hno : σ0.abs = Abs.no) :
    WC G Tryd.prog 28 #[] σ0 fun v _ => v = .bool true := by
  refine WC.enter (fn := Tryd.f28) Tryd.func28 rfl ?_
  refine W.seq ?_
  refine W.region ?_
  refine RW.val (by kernel_rfl) (by kernel_rfl) rfl (by kernel_rfl) ?_
  refine RW.nil ?_
  refine W.reset [(0, .bool false)] ⟨rfl, trivial⟩ fun TA => ?_
  have CN := s_new (G := G) (σ := σ0) 40 (by omega) (by omega) hno
  refine W.seq ?_
  refine W.region ?_
  refine RW.call (by kernel_rfl) (by kernel_rfl) rfl rfl rfl (by kernel_rfl) (by kernel_rfl) ⟨_, _, CN, ?_⟩
  refine RW.val (by kernel_rfl) (by kernel_rfl) rfl (by kernel_rfl) ?_
  refine RW.val (by kernel_rfl) (by kernel_rfl) rfl (by kernel_rfl) ?_
  refine RW.val (by kernel_rfl) (by kernel_rfl) rfl (by kernel_rfl) ?_
  refine RW.val (by kernel_rfl) (by kernel_rfl) rfl (by kernel_rfl) ?_
  refine RW.val (by kernel_rfl) (by kernel_rfl) rfl (by kernel_rfl) ?_
  obtain ⟨σa, hσa⟩ : ∃ Z, Z = σ0.made 40 := ⟨_, rfl⟩
  rw [← hσa]
  have na : σa.next = σ0.next + 1 := by rw [hσa]; rfl
  have ha : σa.abs = heapAbs σ0.next (hmT ⟨#[97]⟩ 0) := by rw [hσa]; rfl
  replace hR : RowsAt rowsU σa := fun g cs hm => by obtain ⟨t, f, e⟩ := hR g cs hm; exact ⟨t, f, by rw [hσa, made_get]; exact e⟩
  have gn : G ≤ σa.next := by omega
  clear hσa CN hno
  refine RW.nil ?_
  refine W.reset [(1, pp σ0.next), (2, .int .i64 0)] ⟨rfl, rfl, trivial⟩ fun TA => ?_
  have CR := s_room (G := G) ha
  rw [hmT_used goodS_a] at CR
  refine W.seq ?_
  refine W.seq ?_
  refine W.region ?_
  refine RW.val (by kernel_rfl) (by kernel_rfl) rfl (by kernel_rfl) ?_
  refine RW.val (by kernel_rfl) (by kernel_rfl) rfl (by kernel_rfl) ?_
  refine RW.val (by kernel_rfl) (by kernel_rfl) rfl (by kernel_rfl) ?_
  refine RW.val (by rfl) (by kernel_rfl) rfl (by kernel_rfl) ?_
  refine RW.val (by rfl) (by kernel_rfl) rfl (by kernel_rfl) ?_
  refine RW.val (by kernel_rfl) (by kernel_rfl) rfl (by kernel_rfl) ?_
  refine RW.val (by kernel_rfl) (by kernel_rfl) rfl (by kernel_rfl) ?_
  refine RW.val (by rfl) (by kernel_rfl) rfl (by kernel_rfl) ?_
  refine RW.call (by rfl) (by kernel_rfl) rfl rfl rfl (by kernel_rfl) (by kernel_rfl) ⟨_, _, CR, ?_⟩
  refine RW.val (by rfl) (by kernel_rfl) rfl (by kernel_rfl) ?_
  refine RW.val (by kernel_rfl) (by kernel_rfl) rfl (by kernel_rfl) ?_
  refine RW.nil ?_
  refine W.cond (b := false) rfl (fun h => by cases h) (fun _ => ?_)
  refine W.skip ?_
  clear CR
  refine W.reset [(1, pp σ0.next)] ⟨rfl, trivial⟩ fun TA => ?_
  refine W.seq ?_
  refine W.region ?_
  refine RW.val (by kernel_rfl) (by kernel_rfl) rfl (by kernel_rfl) ?_
  refine RW.nil ?_
  refine W.reset [(1, pp σ0.next), (3, .string ⟨#[97]⟩)] ⟨rfl, rfl, trivial⟩ fun TA => ?_
  refine W.seq ?_
  refine W.block ?_
  refine W.loop (fun mm ta σ => ∃ (k : Nat) (s : ByteArray), mm + k = 16 ∧ GoodS s (2 ^ k) ∧ σ = σa ∧ ta 1 = pp σ0.next ∧ ta 3 = .string s) 16 ?_ ?_
  · exact ⟨0, ⟨#[97]⟩, rfl, goodS_a, rfl, rfl, rfl⟩
  rintro mm ta σ ⟨k, s, hm, gs, rfl, e1, e3⟩
  refine W.know 1 e1 (W.know 3 e3 (?_))
  have hp : 2 ^ k ≤ 65536 := Nat.pow_le_pow_right (n := 2) (by decide) (show k ≤ 16 by omega)
  refine W.seq ?_
  refine W.seq ?_
  refine W.region ?_
  refine RW.val (by kernel_rfl) (by kernel_rfl) rfl (by kernel_rfl) ?_
  refine RW.vop (by kernel_rfl) (by kernel_rfl) (vop_strLen rfl rfl rfl rfl Tryd.underlying9 rfl) (by kernel_rfl) ?_
  refine RW.val (by kernel_rfl) (by kernel_rfl) rfl (by kernel_rfl) ?_
  refine RW.nil ?_
  refine W.cond rfl (fun hh => ?_) (fun hh => ?_)
  · have hk : k < 16 := by
      have h1 := of_decide_eq_true hh
      rw [gs.size] at h1
      rcases Nat.lt_or_ge k 16 with h | h
      · exact h
      · have : k = 16 := by omega
        subst this
        exact absurd h1 (by decide)
    refine W.skip ?_
    refine W.block ?_
    refine W.region ?_
    refine RW.val (by kernel_rfl) (by kernel_rfl) rfl (by kernel_rfl) ?_
    refine RW.val (by kernel_rfl) (by kernel_rfl) rfl (by kernel_rfl) ?_
    refine RW.vop (by kernel_rfl) (by kernel_rfl) (vop_strAdd rfl rfl rfl (by rw [gs.size]; omega)) (by kernel_rfl) ?_
    refine RW.val (by kernel_rfl) (by kernel_rfl) rfl (by kernel_rfl) ?_
    refine RW.nil ?_
    refine ⟨rfl, mm - 1, by omega, k + 1, _, by omega, by rw [Nat.pow_succ, Nat.mul_two]; exact gs.dbl, rfl, rfl, rfl⟩
  have hk : k = 16 := by
    have h1 := of_decide_eq_false hh
    rw [gs.size] at h1
    rcases Nat.lt_or_ge k 16 with h | h
    · have h2 : 2 ^ k ≤ 2 ^ 15 := Nat.pow_le_pow_right (by decide) (by omega)
      exfalso
      exact h1 (by have : (2 : Nat) ^ 15 = 32768 := by decide
                   omega)
    · omega
  subst hk
  refine W.exit _ ?_
  replace gs : GoodS s 65536 := gs
  clear hh hp hm e1 e3
  have hsz : s.size ≤ 1000000000000 := by rw [gs.size]; decide
  refine W.reset [(1, pp σ0.next), (3, .string s)] ⟨rfl, rfl, trivial⟩ fun TA => ?_
  refine W.seq ?_
  refine W.seq ?_
  refine W.region ?_
  refine RW.val (by kernel_rfl) (by kernel_rfl) rfl (by kernel_rfl) ?_
  refine RW.nil ?_
  refine W.reset [(1, pp σ0.next), (3, .string s), (4, .int .i64 0)] ⟨rfl, rfl, rfl, trivial⟩ fun TA => ?_
  refine W.block ?_
  refine W.loop (fun mm ta τ => ∃ i : Nat, mm + i = 15 ∧ (∀ b y, σ.get b = some y → τ.get b = some y) ∧ σ.next ≤ τ.next ∧ τ.abs = heapAbs σ0.next (hmT s i) ∧ ta 1 = pp σ0.next ∧ ta 3 = .string s ∧ ta 4 = .int .i64 (i : Int)) 15 ?_ ?_
  · exact ⟨0, rfl, fun _ _ h => h, Nat.le_refl _, ha, rfl, rfl, rfl⟩
  rintro mm ta τ ⟨i, hm, ho, hnx, hab, e1, e3, e4⟩
  refine W.know 1 e1 (W.know 3 e3 (W.know 4 e4 (?_)))
  refine W.seq ?_
  refine W.seq ?_
  refine W.region ?_
  refine RW.val (by kernel_rfl) (by kernel_rfl) rfl (by kernel_rfl) ?_
  refine RW.val (by kernel_rfl) (by kernel_rfl) rfl (by kernel_rfl) ?_
  refine RW.nil ?_
  refine W.cond rfl (fun hh => ?_) (fun hh => ?_)
  · have hi : i < 15 := by have := of_decide_eq_true hh; omega
    have gt : G ≤ τ.next := by omega
    have hT : RowsAt rowsU τ := fun g cs hm => by obtain ⟨t, f, e⟩ := hR g cs hm; exact ⟨t, f, ho _ _ e⟩
    have CT := s_text (G := G) (s := s) hT h16 hab hsz gs.ok (by rw [gs.len]; decide) (by rw [hmT_many]; show i < 40; omega) rfl (by rw [hmT_used gs, gs.len]; omega)
    rw [hmT_len, hmT_succ] at CT
    refine W.skip ?_
    refine W.seq ?_
    refine W.block ?_
    refine W.seq ?_
    refine W.region ?_
    refine RW.val (by kernel_rfl) (by kernel_rfl) rfl (by kernel_rfl) ?_
    refine RW.val (by kernel_rfl) (by kernel_rfl) rfl (by kernel_rfl) ?_
    refine RW.call (by kernel_rfl) (by kernel_rfl) rfl rfl rfl (by kernel_rfl) (by kernel_rfl) ⟨_, _, CT, ?_⟩
    refine RW.val (by kernel_rfl) (by kernel_rfl) rfl (by kernel_rfl) ?_
    refine RW.val (by kernel_rfl) (by kernel_rfl) rfl (by kernel_rfl) ?_
    refine RW.val (by kernel_rfl) (by kernel_rfl) rfl (by kernel_rfl) ?_
    have nw : (τ.with (heapAbs σ0.next (hmT s (i + 1)))).next = τ.next := rfl
    refine RW.varS (d := 5) (r0 := ⟨[.int .i64 0, .int .i64 0], 24, false⟩) (vs := #[.int .i64 ((3, (i : Int)) : Wd).1, .int .i64 ((3, (i : Int)) : Wd).2]) (by kernel_rfl) (by kernel_rfl) (by kernel_rfl) rfl (by kernel_rfl) rfl (by kernel_rfl) rfl rfl rfl rfl (by kernel_rfl) rfl (by show G ≤ τ.next; exact gt) ?_
    intro σ1 _ r5 o1 n1 a1
    refine RW.val (by kernel_rfl) (by kernel_rfl) rfl (by kernel_rfl) ?_
    refine RW.nil ?_
    rw [nw] at r5 n1
    clear CT r5
    replace ho : ∀ b y, σ.get b = some y → σ1.get b = some y := fun b y hy => o1 b y (ho b y hy)
    replace hab : σ1.abs = heapAbs σ0.next (hmT s (i + 1)) := a1
    clear o1 a1
    refine W.reset [(1, pp σ0.next), (3, .string s), (4, .int .i64 (i : Int)), (6, .int .i64 0)] ⟨rfl, rfl, rfl, rfl, trivial⟩ fun TB => ?_
    refine W.seq ?_
    refine W.region ?_
    refine RW.val (by kernel_rfl) (by kernel_rfl) rfl (by kernel_rfl) ?_
    refine RW.val (by kernel_rfl) (by kernel_rfl) rfl (by kernel_rfl) ?_
    refine RW.nil ?_
    refine W.cond (b := false) rfl (fun h => by cases h) (fun _ => ?_)
    refine W.skip ?_
    refine W.region ?_
    refine RW.val (by kernel_rfl) (by kernel_rfl) rfl (by kernel_rfl) ?_
    refine RW.valE (by kernel_rfl) (by kernel_rfl) rfl (congrArg (Value.int .i64) (wrap_in (by omega) (by omega))) (by kernel_rfl) ?_
    refine RW.val (by kernel_rfl) (by kernel_rfl) rfl (by kernel_rfl) ?_
    refine RW.nil ?_
    exact ⟨rfl, mm - 1, by omega, i + 1, by omega, ho, by omega, hab, rfl, rfl, rfl⟩
  have hi : i = 15 := by have := of_decide_eq_false hh; omega
  subst hi
  refine W.exit _ ?_
  replace hR : RowsAt rowsU τ := fun g cs hm => by obtain ⟨t, f, e⟩ := hR g cs hm; exact ⟨t, f, ho _ _ e⟩
  have gn : G ≤ τ.next := by omega
  have ha := hab
  clear ho hnx hab hm hh e1 e3 e4
  refine W.reset [(1, pp σ0.next)] ⟨rfl, trivial⟩ fun TA => ?_
  refine W.seq ?_
  refine W.region ?_
  refine RW.val (by kernel_rfl) (by kernel_rfl) rfl (by kernel_rfl) ?_
  obtain ⟨n, hn⟩ : ∃ n : Nat, n = 65536 := ⟨_, rfl⟩
  obtain ⟨l, hl⟩ : ∃ l : List Wd, l = List.replicate n (0, 0) := ⟨_, rfl⟩
  have hll : l.length = n := by rw [hl, List.length_replicate]
  refine RW.makeG (x := .row ⟨wdC l, 24, false⟩) (fm := fun b => .slice (some ⟨b, 0, none⟩) n n) (by kernel_rfl) (by kernel_rfl) (by rw [hl]; exact makeSlice_wd n (by omega) rfl (by rw [hn]; rfl) (by rw [hn]; rfl)) (by kernel_rfl) ?_; intro σm _ gm Gm nm
  have K : ∀ b y, τ.get b = some y → σm.get b = some y := Gm.old
  replace hR : RowsAt rowsU σm := fun g cs hm => by obtain ⟨t, f, e⟩ := hR g cs hm; exact ⟨t, f, K _ _ e⟩
  replace gn : G ≤ σm.next := by omega
  replace ha := Gm.abs.trans ha
  clear K
  have hsl : Sl σm 2 (.slice (some ⟨τ.next, 0, none⟩) n n) (wdC l) := by
    have h1 : (wdC l).length = n * 2 := by rw [wdC_length, hll]
    exact .some gm h1 (fun i x hi => by simpa using hi)
  have CV := s_vec (G := G) hsl ha (by rw [hll, hn]; decide) (by rw [hmT_many]; show 15 < 40; decide) rfl (by rw [hmT_used gs, hll, hn]; decide)
  rw [hmT_len, hmV_is] at CV
  refine RW.call (by kernel_rfl) (by kernel_rfl) rfl rfl rfl (by kernel_rfl) (by kernel_rfl) ⟨_, _, CV, ?_⟩
  refine RW.val (by kernel_rfl) (by kernel_rfl) rfl (by kernel_rfl) ?_
  refine RW.val (by kernel_rfl) (by kernel_rfl) rfl (by kernel_rfl) ?_
  refine RW.val (by kernel_rfl) (by kernel_rfl) rfl (by kernel_rfl) ?_
  obtain ⟨σs1, hs⟩ : ∃ Z, Z = σm.with (heapAbs σ0.next (hmV s l)) := ⟨_, rfl⟩
  rw [← hs]
  have ns : σs1.next = σm.next := by rw [hs]; rfl
  have K : ∀ b y, σm.get b = some y → σs1.get b = some y := fun b y hy => by rw [hs, with_get]; exact hy
  replace hR : RowsAt rowsU σs1 := fun g cs hm => by obtain ⟨t, f, e⟩ := hR g cs hm; exact ⟨t, f, K _ _ e⟩
  replace gn : G ≤ σs1.next := by omega
  replace ha := (show σs1.abs = heapAbs σ0.next (hmV s l) by rw [hs]; rfl)
  clear K
  clear hs
  refine RW.varS (d := 7) (r0 := ⟨[.int .i64 0, .int .i64 0], 24, false⟩) (vs := #[.int .i64 ((4, 15) : Wd).1, .int .i64 ((4, 15) : Wd).2]) (by kernel_rfl) (by kernel_rfl) (by kernel_rfl) rfl (by kernel_rfl) rfl (by kernel_rfl) rfl rfl rfl rfl (by kernel_rfl) rfl (by omega) ?_
  intro σq2 _ r7 oq nq aq
  have K : ∀ b y, σs1.get b = some y → σq2.get b = some y := oq
  replace hR : RowsAt rowsU σq2 := fun g cs hm => by obtain ⟨t, f, e⟩ := hR g cs hm; exact ⟨t, f, K _ _ e⟩
  replace gn : G ≤ σq2.next := by omega
  replace ha := aq.trans ha
  clear K
  clear oq nq aq
  refine RW.val (by kernel_rfl) (by kernel_rfl) rfl (by kernel_rfl) ?_
  clear CV hsl gm Gm nm ns
  refine RW.nil ?_
  refine W.reset [(1, pp σ0.next), (7, pp σs1.next), (8, .int .i64 0)] ⟨rfl, rfl, rfl, trivial⟩ fun TA => ?_
  have hu := hmV_used (l := l) gs
  rw [hll, hn] at hu
  have CL := s_textLarge (G := G) (s := ⟨#[195, 169]⟩) hR h16 ha (by decide) (by decide) (by decide) (hmV_lt s l) rfl (by rw [hu]; decide)
  refine W.seq ?_
  refine W.region ?_
  refine RW.val (by kernel_rfl) (by kernel_rfl) rfl (by kernel_rfl) ?_
  refine RW.call (by kernel_rfl) (by kernel_rfl) rfl rfl rfl (by kernel_rfl) (by kernel_rfl) ⟨_, _, CL, ?_⟩
  refine RW.val (by kernel_rfl) (by kernel_rfl) rfl (by kernel_rfl) ?_
  refine RW.val (by kernel_rfl) (by kernel_rfl) rfl (by kernel_rfl) ?_
  refine RW.val (by kernel_rfl) (by kernel_rfl) rfl (by kernel_rfl) ?_
  refine RW.varS (d := 9) (r0 := ⟨[.int .i64 0, .int .i64 0], 24, false⟩) (vs := #[.int .i64 ((0, 0) : Wd).1, .int .i64 ((0, 0) : Wd).2]) (by kernel_rfl) (by kernel_rfl) (by kernel_rfl) rfl (by kernel_rfl) rfl (by kernel_rfl) rfl rfl rfl rfl (by kernel_rfl) rfl (by omega) ?_
  intro σq3 _ r9 oq nq aq
  have K : ∀ b y, σq2.get b = some y → σq3.get b = some y := oq
  replace r7 := K _ _ r7
  replace hR : RowsAt rowsU σq3 := fun g cs hm => by obtain ⟨t, f, e⟩ := hR g cs hm; exact ⟨t, f, K _ _ e⟩
  replace gn : G ≤ σq3.next := by omega
  replace ha := aq.trans ha
  clear K
  clear oq nq aq
  refine RW.val (by kernel_rfl) (by kernel_rfl) rfl (by kernel_rfl) ?_
  clear r9
  clear CL
  refine RW.nil ?_
  refine W.reset [(1, pp σ0.next), (7, pp σs1.next), (8, .int .i64 0), (10, .int .i64 7)] ⟨rfl, rfl, rfl, rfl, trivial⟩ fun TA => ?_
  refine W.seq ?_
  refine W.region ?_
  refine RW.val (by kernel_rfl) (by kernel_rfl) rfl (by kernel_rfl) ?_
  have np : ∃ k, σq3.next = k := ⟨_, rfl⟩
  obtain ⟨k15, hk15⟩ := np
  refine RW.makeG (x := .row ⟨wdC [((0, 0) : Wd)], 24, false⟩) (fm := fun b => .slice (some ⟨b, 0, none⟩) 1 1) (by kernel_rfl) (by kernel_rfl) (by kernel_rfl) (by kernel_rfl) ?_; intro σn _ gm Gm nm
  have K : ∀ b y, σq3.get b = some y → σn.get b = some y := Gm.old
  replace r7 := K _ _ r7
  replace hR : RowsAt rowsU σn := fun g cs hm => by obtain ⟨t, f, e⟩ := hR g cs hm; exact ⟨t, f, K _ _ e⟩
  replace gn : G ≤ σn.next := by omega
  replace ha := Gm.abs.trans ha
  clear K
  have hsl : Sl σn 2 (.slice (some ⟨σq3.next, 0, none⟩) 1 1) (wdC [((0, 0) : Wd)]) := .some gm rfl (fun i x hi => by simpa using hi)
  have CV := s_vecLarge (G := G) hsl ha (by decide) (hmV_lt s l) rfl (by rw [hu]; decide)
  refine RW.call (by kernel_rfl) (by kernel_rfl) rfl rfl rfl (by kernel_rfl) (by kernel_rfl) ⟨_, _, CV, ?_⟩
  refine RW.val (by kernel_rfl) (by kernel_rfl) rfl (by kernel_rfl) ?_
  refine RW.val (by kernel_rfl) (by kernel_rfl) rfl (by kernel_rfl) ?_
  refine RW.val (by kernel_rfl) (by kernel_rfl) rfl (by kernel_rfl) ?_
  refine RW.varS (d := 11) (r0 := ⟨[.int .i64 0, .int .i64 0], 24, false⟩) (vs := #[.int .i64 ((0, 0) : Wd).1, .int .i64 ((0, 0) : Wd).2]) (by kernel_rfl) (by kernel_rfl) (by kernel_rfl) rfl (by kernel_rfl) rfl (by kernel_rfl) rfl rfl rfl rfl (by kernel_rfl) rfl (by omega) ?_
  intro σq4 _ r11 oq nq aq
  have K : ∀ b y, σn.get b = some y → σq4.get b = some y := oq
  replace r7 := K _ _ r7
  replace hR : RowsAt rowsU σq4 := fun g cs hm => by obtain ⟨t, f, e⟩ := hR g cs hm; exact ⟨t, f, K _ _ e⟩
  replace gn : G ≤ σq4.next := by omega
  replace ha := aq.trans ha
  clear K
  clear oq nq aq
  refine RW.val (by kernel_rfl) (by kernel_rfl) rfl (by kernel_rfl) ?_
  clear r11
  clear CV hsl gm Gm nm hk15
  refine RW.nil ?_
  refine W.reset [(1, pp σ0.next), (7, pp σs1.next), (8, .int .i64 0), (10, .int .i64 7), (12, .int .i64 7)] ⟨rfl, rfl, rfl, rfl, rfl, trivial⟩ fun TA => ?_
  refine W.seq ?_
  refine W.region ?_
  refine RW.val (by kernel_rfl) (by kernel_rfl) rfl (by kernel_rfl) ?_
  refine RW.makeG (x := .row ⟨byC [1], 5, false⟩) (fm := fun b => .slice (some ⟨b, 0, none⟩) 1 1) (by kernel_rfl) (by kernel_rfl) (by kernel_rfl) (by kernel_rfl) ?_; intro σc _ gm Gm nm
  have K : ∀ b y, σq4.get b = some y → σc.get b = some y := Gm.old
  replace r7 := K _ _ r7
  replace hR : RowsAt rowsU σc := fun g cs hm => by obtain ⟨t, f, e⟩ := hR g cs hm; exact ⟨t, f, K _ _ e⟩
  replace gn : G ≤ σc.next := by omega
  replace ha := Gm.abs.trans ha
  clear K
  refine RW.val (v := .agg #[.int .i64 0, .int .i64 0, .int .i64 0, .slice (some ⟨σq4.next, 0, none⟩) 1 1, .slice none 0 0]) (by kernel_rfl) (by kernel_rfl) (by kernel_rfl) (by kernel_rfl) ?_
  have hsl : Sl σc 1 (.slice (some ⟨σq4.next, 0, none⟩) 1 1) (byC [1]) := .some gm rfl (fun i x hi => by simpa using hi)
  have CV := s_codeLarge (G := G) (x := 0) (y := 0) (z := 0) (cs := []) hsl .nil ha (by decide) (by decide) (hmV_lt s l) rfl (by rw [hu]; decide)
  refine RW.call (by kernel_rfl) (by kernel_rfl) rfl rfl rfl (by kernel_rfl) (by kernel_rfl) ⟨_, _, CV, ?_⟩
  refine RW.val (by kernel_rfl) (by kernel_rfl) rfl (by kernel_rfl) ?_
  refine RW.val (by kernel_rfl) (by kernel_rfl) rfl (by kernel_rfl) ?_
  refine RW.val (by kernel_rfl) (by kernel_rfl) rfl (by kernel_rfl) ?_
  refine RW.varS (d := 13) (r0 := ⟨[.int .i64 0, .int .i64 0], 24, false⟩) (vs := #[.int .i64 ((0, 0) : Wd).1, .int .i64 ((0, 0) : Wd).2]) (by kernel_rfl) (by kernel_rfl) (by kernel_rfl) rfl (by kernel_rfl) rfl (by kernel_rfl) rfl rfl rfl rfl (by kernel_rfl) rfl (by omega) ?_
  intro σq5 _ r13 oq nq aq
  have K : ∀ b y, σc.get b = some y → σq5.get b = some y := oq
  replace r7 := K _ _ r7
  replace hR : RowsAt rowsU σq5 := fun g cs hm => by obtain ⟨t, f, e⟩ := hR g cs hm; exact ⟨t, f, K _ _ e⟩
  replace gn : G ≤ σq5.next := by omega
  replace ha := aq.trans ha
  clear K
  clear oq nq aq
  refine RW.val (by kernel_rfl) (by kernel_rfl) rfl (by kernel_rfl) ?_
  clear r13
  clear CV hsl gm Gm nm
  refine RW.nil ?_
  refine W.reset [(1, pp σ0.next), (7, pp σs1.next), (8, .int .i64 0), (10, .int .i64 7), (12, .int .i64 7), (14, .int .i64 7)] ⟨rfl, rfl, rfl, rfl, rfl, rfl, trivial⟩ fun TA => ?_
  have CT := s_text (G := G) (s := ByteArray.empty) hR h16 ha (by decide) (by decide) (by decide) (hmV_lt s l) rfl (by rw [hu]; decide)
  rw [hmE_is] at CT
  refine W.seq ?_
  refine W.region ?_
  refine RW.val (by kernel_rfl) (by kernel_rfl) rfl (by kernel_rfl) ?_
  refine RW.call (by kernel_rfl) (by kernel_rfl) rfl rfl rfl (by kernel_rfl) (by kernel_rfl) ⟨_, _, CT, ?_⟩
  refine RW.val (by kernel_rfl) (by kernel_rfl) rfl (by kernel_rfl) ?_
  refine RW.val (by kernel_rfl) (by kernel_rfl) rfl (by kernel_rfl) ?_
  refine RW.val (by kernel_rfl) (by kernel_rfl) rfl (by kernel_rfl) ?_
  obtain ⟨σs6, hs⟩ : ∃ Z, Z = σq5.with (heapAbs σ0.next (hmE s l)) := ⟨_, rfl⟩
  rw [← hs]
  have ns : σs6.next = σq5.next := by rw [hs]; rfl
  have K : ∀ b y, σq5.get b = some y → σs6.get b = some y := fun b y hy => by rw [hs, with_get]; exact hy
  replace r7 := K _ _ r7
  replace hR : RowsAt rowsU σs6 := fun g cs hm => by obtain ⟨t, f, e⟩ := hR g cs hm; exact ⟨t, f, K _ _ e⟩
  replace gn : G ≤ σs6.next := by omega
  replace ha := (show σs6.abs = heapAbs σ0.next (hmE s l) by rw [hs]; rfl)
  clear K
  clear hs
  refine RW.varS (d := 15) (r0 := ⟨[.int .i64 0, .int .i64 0], 24, false⟩) (vs := #[.int .i64 ((3, 16) : Wd).1, .int .i64 ((3, 16) : Wd).2]) (by kernel_rfl) (by kernel_rfl) (by kernel_rfl) rfl (by kernel_rfl) rfl (by kernel_rfl) rfl rfl rfl rfl (by kernel_rfl) rfl (by omega) ?_
  intro σq7 _ r15 oq nq aq
  have K : ∀ b y, σs6.get b = some y → σq7.get b = some y := oq
  replace r7 := K _ _ r7
  replace hR : RowsAt rowsU σq7 := fun g cs hm => by obtain ⟨t, f, e⟩ := hR g cs hm; exact ⟨t, f, K _ _ e⟩
  replace gn : G ≤ σq7.next := by omega
  replace ha := aq.trans ha
  clear K
  clear oq nq aq
  refine RW.val (by kernel_rfl) (by kernel_rfl) rfl (by kernel_rfl) ?_
  clear r15
  clear CT ns hu
  refine RW.nil ?_
  refine W.reset [(1, pp σ0.next), (7, pp σs1.next), (8, .int .i64 0), (10, .int .i64 7), (12, .int .i64 7), (14, .int .i64 7), (16, .int .i64 0)] ⟨rfl, rfl, rfl, rfl, rfl, rfl, rfl, trivial⟩ fun TA => ?_
  have hu := hmE_used (l := l) gs
  rw [hll, hn] at hu
  have CR := s_room (G := G) ha
  rw [hu] at CR
  refine W.seq ?_
  refine W.region ?_
  refine RW.val (by kernel_rfl) (by kernel_rfl) rfl (by kernel_rfl) ?_
  refine RW.call (by kernel_rfl) (by kernel_rfl) rfl rfl rfl (by kernel_rfl) (by kernel_rfl) ⟨_, _, CR, ?_⟩
  refine RW.val (by kernel_rfl) (by kernel_rfl) rfl (by kernel_rfl) ?_
  refine RW.val (by kernel_rfl) (by kernel_rfl) rfl (by kernel_rfl) ?_
  refine RW.val (by rfl) (by kernel_rfl) rfl (by kernel_rfl) ?_
  refine RW.val (by rfl) (by kernel_rfl) rfl (by kernel_rfl) ?_
  refine RW.val (by kernel_rfl) (by kernel_rfl) rfl (by kernel_rfl) ?_
  refine RW.val (by kernel_rfl) (by kernel_rfl) rfl (by kernel_rfl) ?_
  refine RW.val (by rfl) (by kernel_rfl) rfl (by kernel_rfl) ?_
  refine RW.val (by rfl) (by kernel_rfl) rfl (by kernel_rfl) ?_
  refine RW.val (by kernel_rfl) (by kernel_rfl) rfl (by kernel_rfl) ?_
  refine RW.val (by kernel_rfl) (by kernel_rfl) rfl (by kernel_rfl) ?_
  refine RW.val (by rfl) (by kernel_rfl) rfl (by kernel_rfl) ?_
  refine RW.val (by rfl) (by kernel_rfl) rfl (by kernel_rfl) ?_
  refine RW.val (by kernel_rfl) (by kernel_rfl) rfl (by kernel_rfl) ?_
  refine RW.val (by kernel_rfl) (by kernel_rfl) rfl (by kernel_rfl) ?_
  refine RW.val (by rfl) (by kernel_rfl) rfl (by kernel_rfl) ?_
  refine RW.val (by rfl) (by kernel_rfl) rfl (by kernel_rfl) ?_
  refine RW.val (by kernel_rfl) (by kernel_rfl) rfl (by kernel_rfl) ?_
  refine RW.val (by kernel_rfl) (by kernel_rfl) rfl (by kernel_rfl) ?_
  refine RW.val (by rfl) (by kernel_rfl) rfl (by kernel_rfl) ?_
  refine RW.val (by rfl) (by kernel_rfl) rfl (by kernel_rfl) ?_
  refine RW.val (by kernel_rfl) (by kernel_rfl) rfl (by kernel_rfl) ?_
  refine RW.val (by kernel_rfl) (by kernel_rfl) rfl (by kernel_rfl) ?_
  refine RW.nil ?_
  refine W.reset [(1, pp σ0.next), (7, pp σs1.next), (17, .bool true)] ⟨rfl, rfl, rfl, trivial⟩ fun TA => ?_
  have CP := s_copy (G := G) ha rfl (by intro i x y z bs cs; exact hmE_noCode)
  obtain ⟨σp, hσp⟩ : ∃ Z, Z = σq7.also (heapAbs2 σ0.next (hmE s l) σq7.next (hmE s l)) := ⟨_, rfl⟩
  have ap : σp.abs = heapAbs2 σ0.next (hmE s l) σq7.next (hmE s l) := by rw [hσp]; rfl
  have C2 := s_room2 (G := G) ap
  rw [hu] at C2
  obtain ⟨σr, hσr⟩ : ∃ Z, Z = σp.with (heapAbs σ0.next (hmE s l)) := ⟨_, rfl⟩
  rw [← hσr] at C2
  rw [← hσp] at CP
  have nr : σr.next = σq7.next + 1 := by rw [hσr, hσp]; rfl
  refine W.seq ?_
  refine W.region ?_
  refine RW.val (by kernel_rfl) (by kernel_rfl) rfl (by kernel_rfl) ?_
  refine RW.val (by kernel_rfl) (by kernel_rfl) rfl (by kernel_rfl) ?_
  refine RW.val (by rfl) (by kernel_rfl) rfl (by kernel_rfl) ?_
  refine RW.call (by rfl) (by kernel_rfl) rfl rfl rfl (by kernel_rfl) (by kernel_rfl) ⟨_, _, CP, ?_⟩
  refine RW.call (by rfl) (by kernel_rfl) rfl rfl rfl (by kernel_rfl) (by kernel_rfl) ⟨_, _, C2, ?_⟩
  refine RW.val (by rfl) (by kernel_rfl) rfl (by kernel_rfl) ?_
  refine RW.val (by kernel_rfl) (by kernel_rfl) rfl (by kernel_rfl) ?_
  refine RW.val (by kernel_rfl) (by kernel_rfl) rfl (by kernel_rfl) ?_
  have K : ∀ b y, σq7.get b = some y → σr.get b = some y := fun b y hy => by rw [hσr, with_get, hσp, also_get]; exact hy
  replace r7 := K _ _ r7
  replace hR : RowsAt rowsU σr := fun g cs hm => by obtain ⟨t, f, e⟩ := hR g cs hm; exact ⟨t, f, K _ _ e⟩
  replace gn : G ≤ σr.next := by omega
  replace ha := (show σr.abs = heapAbs σ0.next (hmE s l) by rw [hσr]; rfl)
  clear K
  clear hσr hσp ap C2 CP
  refine RW.val (by rfl) (by kernel_rfl) rfl (by kernel_rfl) ?_
  refine RW.loads 2 (by rfl) (by kernel_rfl) rfl rfl r7 rfl rfl (by kernel_rfl) ?_
  refine RW.makeG (x := .row ⟨wdC [((4, 15) : Wd)], 24, false⟩) (fm := fun b => .slice (some ⟨b, 0, none⟩) 1 1) (by kernel_rfl) (by kernel_rfl) (by kernel_rfl) (by kernel_rfl) ?_; intro σw _ gm Gm nm
  have K : ∀ b y, σr.get b = some y → σw.get b = some y := Gm.old
  replace r7 := K _ _ r7
  replace hR : RowsAt rowsU σw := fun g cs hm => by obtain ⟨t, f, e⟩ := hR g cs hm; exact ⟨t, f, K _ _ e⟩
  replace gn : G ≤ σw.next := by omega
  replace ha := Gm.abs.trans ha
  clear K
  have hsl : Sl σw 2 (.slice (some ⟨σr.next, 0, none⟩) 1 1) (wdC [((4, 15) : Wd)]) := .some gm rfl (fun i x hi => by simpa using hi)
  have CC := s_collect (G := G) _ [((4, 15) : Wd)] mkE hsl ha (by rw [hl]; exact fun M' hM => marksE hM) (by decide) hR h16 (hmE_texts hsz)
  rw [goneE] at CC
  refine RW.call (by rfl) (by kernel_rfl) rfl rfl rfl (by kernel_rfl) (by kernel_rfl) ⟨_, _, CC, ?_⟩
  refine RW.val (by rfl) (by kernel_rfl) rfl (by kernel_rfl) ?_
  refine RW.val (by kernel_rfl) (by kernel_rfl) rfl (by kernel_rfl) ?_
  refine RW.val (by kernel_rfl) (by kernel_rfl) rfl (by kernel_rfl) ?_
  have CZ := s_room (G := G) (σ := σw.with (heapAbs σ0.next ((hmE s l).swept mkE))) rfl
  rw [sweptE, hll, hn] at CZ
  refine RW.val (by rfl) (by kernel_rfl) rfl (by kernel_rfl) ?_
  refine RW.call (by rfl) (by kernel_rfl) rfl rfl rfl (by kernel_rfl) (by kernel_rfl) ⟨_, _, CZ, ?_⟩
  refine RW.val (by rfl) (by kernel_rfl) rfl (by kernel_rfl) ?_
  refine RW.val (by kernel_rfl) (by kernel_rfl) rfl (by kernel_rfl) ?_
  refine RW.val (by kernel_rfl) (by kernel_rfl) rfl (by kernel_rfl) ?_
  refine RW.nil ?_
  refine W.ret ?_
  exact endG (R := fun v _ => v = Value.bool true) rfl (resL_tmp rfl) rfl
end Go.Proofs.YthmfiahmfdadgaaDoor
namespace Go.Proofs.YthmfiahmfdadgaaDoor
open Go.RowKit
set_option maxRecDepth 100000
/-- A call that leaves all alone where the tables lie. -/
theorem tab_callN {P : Program} {G : Nat} {f : FuncId} {args : Array Value} {v : Value} {σ : Mem} (hR : RowsAt rowsU σ) (h16 : 16 ≤ G) (hl : args.toList.all (closedV 3) = true) (hv : closedV 3 v = true)
    (hc : ∀ w, Tabs w → Calls P f args w fun e w' => e = .returned v ∧ Below w.heap.size w w') : SCall G P f args σ v σ := by
  refine ⟨Nat.le_refl _, fun μ w cargs hs hGn hf har => ?_⟩
  have hT : Tabs w := tabs_of_rows (rows_lie hs (fun g cs hm => Nat.lt_of_lt_of_le (rowsU_low g cs hm) h16) (fun g cs hm => Nat.lt_of_lt_of_le (rowsU_low g cs hm) (by decide)) rowsU_flat hR)
  have hz : cargs = args := by
    apply Array.ext
    · exact har.1.symm
    · intro i h1 h2
      exact closedV_eq 3 _ _ (List.all_eq_true.1 hl _ (by simp)) (har.2 i args[i] cargs[i] (by simp [h2]) (by simp [h1]))
  subst hz
  refine (hc w hT).mono ?_
  rintro e w' ⟨rfl, hb⟩
  have own2 := OwnOk.same (G := G) (σ := σ) (μ := μ) (w := w) (w' := w') (σ' := σ) rfl (Ext.refl μ) rfl hb.size (fun B hB _ => hb.block B hB) fun c z ci hz hc => .inr ⟨c, z, ci, hz, hc, rfl⟩
  exact ⟨v, μ, rfl, ⟨Nat.le_refl _, fun b h1 h2 => absurd h1 (by omega), fun _ _ => rfl, ⟨hs.glob, fun b x bi hx hm => (hs.blk b x bi hx hm).keep (hb.block _ (hs.blk b x bi hx hm).lt) (Ext.refl _), hs.inj, hs.rw_, own2 hs.abs⟩, hb.size, hb.os, hb.tape, hb.output, fun b x bi hb' hx _ => absurd (Mem.lt hx) (by omega), fun _ x _ h => ⟨x, h⟩, hGn, own_id, fun B hB _ _ => hb.block B hB⟩, closedV_rel _ 3 v hv⟩
theorem stores_any (w : World) (hT : Tabs w) : Calls Tryd.prog 28 #[] w fun e w' => e = .returned (.bool true) ∧ Below w.heap.size w w' := by
  have h64 : ∀ g cs, (g, cs) ∈ rowsU → g < 64 := fun g cs hm => Nat.lt_of_lt_of_le (rowsU_low g cs hm) (by decide)
  have hnd : (rowsU.map (·.1)).Nodup := by unfold rowsU; simp
  obtain ⟨v, σ', hS, rfl⟩ := stores_wc (G := 64) (σ0 := argMem rowsU []) (Nat.le_refl _) (by decide) (argMem_tab hnd h64) rfl
  exact arg_calls (rows := []) (rowsU_lie hT) h64 (fun k r hr => by simp at hr) ⟨rfl, fun i y y' h1 h2 => by simp at h1⟩ hS rfl
section
variable {G : Nat} {σ : Mem} {h : Nat} {m : HM}
theorem s_new0 : SCall G Tryd.prog 9 #[.int .i64 0] σ (.tuple #[.pointer none, .int .i64 3]) σ :=
  closed_scall (G := 16) (n := 200) (K := noK []) (args := [.int .i64 0]) noK_right (by kernel_rfl) rfl rfl (fun _ _ h => by cases h) (fun _ _ h => by cases h) (fun _ _ h => by cases h) σ (fun _ _ h => by cases h)
theorem s_consNil : SCall G Tryd.prog 12 #[.pointer none, wdV (1, 0), wdV (1, 0)] σ (.tuple #[wdV (0, 0), .int .i64 1]) σ :=
  closed_scall (G := 16) (n := 200) (K := noK []) (args := [.pointer none, wdV (1, 0), wdV (1, 0)]) noK_right (by kernel_rfl) rfl rfl (fun _ _ h => by cases h) (fun _ _ h => by cases h) (fun _ _ h => by cases h) σ (fun _ _ h => by cases h)
theorem s_manyNil : SCall G Tryd.prog 26 #[.pointer none] σ (.int .i64 0) σ :=
  closed_scall (G := 16) (n := 200) (K := noK []) (args := [.pointer none]) noK_right (by kernel_rfl) rfl rfl (fun _ _ h => by cases h) (fun _ _ h => by cases h) (fun _ _ h => by cases h) σ (fun _ _ h => by cases h)
theorem s_roomNil : SCall G Tryd.prog 29 #[.pointer none] σ (.int .i64 0) σ :=
  closed_scall (G := 16) (n := 200) (K := noK []) (args := [.pointer none]) noK_right (by kernel_rfl) rfl rfl (fun _ _ h => by cases h) (fun _ _ h => by cases h) (fun _ _ h => by cases h) σ (fun _ _ h => by cases h)
theorem s_copyNil : SCall G Tryd.prog 30 #[.pointer none] σ (.pointer none) σ :=
  closed_scall (G := 16) (n := 200) (K := noK []) (args := [.pointer none]) noK_right (by kernel_rfl) rfl rfl (fun _ _ h => by cases h) (fun _ _ h => by cases h) (fun _ _ h => by cases h) σ (fun _ _ h => by cases h)
theorem s_setCar (x y : Wd) (ha : σ.abs = heapAbs h m) : SCall G Tryd.prog 32 #[.pointer (some ⟨h, 0, none⟩), wdV x, wdV y] σ (.int .i64 (m.setCar x y).2) (σ.with (heapAbs h (m.setCar x y).1)) :=
  heap_call ha rfl fun μ w cargs bi S _ har h1 h2 h3 _ => by
    have : cargs = _ := args_heap (l := [wdV x, wdV y]) h1 h2 rfl har
    rw [this]
    exact (setCar_heap S bi.blk m x y w h3).mono fun e w' ⟨k1, k2, k3⟩ => ⟨S, k1, k2, k3⟩
theorem s_textBad {s : ByteArray} (hR : RowsAt rowsU σ) (h16 : 16 ≤ G) (ha : σ.abs = heapAbs h m) (hs0 : s.size ≤ 1000000000000) (hv : Lib.validD s.data.toList = false) :
    SCall G Tryd.prog 11 #[.pointer (some ⟨h, 0, none⟩), .string s] σ (.tuple #[wdV (0, 0), .int .i64 5]) σ := by
  have := heap_call (G := G) (P := Tryd.prog) (f := 11) (args := #[.pointer (some ⟨h, 0, none⟩), .string s]) (v := .tuple #[wdV (0, 0), .int .i64 5]) (m' := m) ha rfl fun μ w cargs bi S hs har h1 h2 h3 hav => by
    have hT : Tabs w := tabs_of_rows (rows_lie hs (fun g cs hm => Nat.lt_of_lt_of_le (rowsU_low g cs hm) h16) (fun g cs hm => Nat.lt_of_lt_of_le (rowsU_low g cs hm) (by decide)) rowsU_flat hR)
    have hout : ∀ g cs, (g, cs) ∈ rowsU → S g = none := fun g cs hm => by
      obtain ⟨t, gg, ht⟩ := hR g cs hm
      obtain ⟨ci, hb, e12⟩ := hs.glob g (Nat.lt_of_lt_of_le (rowsU_low g cs hm) h16)
      have := hav g _ ci ht hb
      rwa [(e12 (Nat.lt_of_lt_of_le (rowsU_low g cs hm) (by decide))).1] at this
    have hTS : TabsOut S := ⟨hout _ firstL (by simp [rowsU]), hout _ accL (by simp [rowsU])⟩
    have : cargs = _ := args_heap (l := [.string s]) h1 h2 rfl har
    subst this
    exact (text_bad S bi.blk m s w h3 hs0 hT hTS hv).mono fun e w' ⟨he, hb⟩ => ⟨S, he, h3.below hb, .of_below hb⟩
  rwa [with_same ha] at this
end
def m1N : HM := ⟨2, [some (.pair (0, 1) (1, 0))], []⟩
def m2N : HM := ⟨2, [some (.pair (0, 1) (1, 0)), some (.text ⟨#[97]⟩)], []⟩
def m3N : HM := ⟨2, [some (.vec []), some (.text ⟨#[97]⟩)], []⟩
theorem m2N_texts : m2N.Texts := fun i t e => by
  have := List.mem_of_getElem? e
  simp [m2N] at this
  subst this
  decide
theorem goneN : m2N.gone [false, true] = 1 := by kernel_rfl
theorem reachN {i : Nat} : Reach m2N [(3, 1)] i ↔ i = 1 := by
  constructor
  · intro h
    induction h with
    | root x o hx h =>
      rw [List.mem_singleton] at hx
      subst hx
      rfl
    | kid i o x o' hi ho hx h ih =>
      exfalso
      subst ih
      cases ho
      cases hx
  · rintro rfl
    exact Reach.root (l := [(3, 1)]) (3, 1) (.text ⟨#[97]⟩) (by simp) rfl
theorem marksN {M : List Bool} (h : Marks m2N (markL m2N (List.replicate m2N.objs.length false, []) [(3, 1)]) M) : m2N.Above M ∧ M = [false, true] := by
  obtain ⟨hl, hr⟩ := h.reach
  have hl : M.length = 2 := hl
  refine ⟨fun z _ x hx => (by cases hx), ?_⟩
  match M, hl with
  | [a, b], _ =>
    have h0 := hr 0
    have h1 := hr 1
    rw [reachN] at h0 h1
    cases a <;> cases b <;> simp_all
set_option maxHeartbeats 8000000 in
theorem names_wc {G : Nat} {σ0 : Mem} (hG : G ≤ σ0.next) (h16 : 16 ≤ G) (hR : RowsAt rowsU σ0) (hno : σ0.abs = Abs.no) :
    WC G Tryd.prog 6 #[] σ0 fun v _ => v = .bool true := by
  have CL : SCall G Tryd.prog 8 #[] σ0 (.bool true) σ0 := tab_callN hR h16 rfl rfl lives_any
  have CS : SCall G Tryd.prog 28 #[] σ0 (.bool true) σ0 := tab_callN hR h16 rfl rfl stores_any
  refine WC.enter (fn := Tryd.f6) Tryd.func6 rfl ?_
  refine W.seq ?_
  refine W.region ?_
  refine RW.val (by kernel_rfl) (by kernel_rfl) rfl (by kernel_rfl) ?_
  refine RW.nil ?_
  refine W.reset [(0, .bool false)] ⟨rfl, trivial⟩ fun TA => ?_
  refine W.seq ?_
  refine W.seq ?_
  refine W.region ?_
  refine RW.call (by kernel_rfl) (by kernel_rfl) rfl rfl rfl (by kernel_rfl) (by kernel_rfl) ⟨_, _, CL, ?_⟩
  refine RW.val (by kernel_rfl) (by kernel_rfl) rfl (by kernel_rfl) ?_
  refine RW.val (by kernel_rfl) (by kernel_rfl) rfl (by kernel_rfl) ?_
  refine RW.call (by rfl) (by kernel_rfl) rfl rfl rfl (by kernel_rfl) (by kernel_rfl) ⟨_, _, CS, ?_⟩
  refine RW.val (by rfl) (by kernel_rfl) rfl (by kernel_rfl) ?_
  refine RW.val (by kernel_rfl) (by kernel_rfl) rfl (by kernel_rfl) ?_
  refine RW.nil ?_
  refine W.cond (b := false) rfl (fun h => by cases h) (fun _ => ?_)
  refine W.skip ?_
  clear CL CS
  have CN := s_new (G := G) (σ := σ0) 2 (by omega) (by omega) hno
  refine W.seq ?_
  refine W.region ?_
  refine RW.call (by kernel_rfl) (by kernel_rfl) rfl rfl rfl (by kernel_rfl) (by kernel_rfl) ⟨_, _, CN, ?_⟩
  refine RW.val (by kernel_rfl) (by kernel_rfl) rfl (by kernel_rfl) ?_
  refine RW.val (by kernel_rfl) (by kernel_rfl) rfl (by kernel_rfl) ?_
  refine RW.val (by kernel_rfl) (by kernel_rfl) rfl (by kernel_rfl) ?_
  refine RW.val (by kernel_rfl) (by kernel_rfl) rfl (by kernel_rfl) ?_
  refine RW.val (by kernel_rfl) (by kernel_rfl) rfl (by kernel_rfl) ?_
  obtain ⟨σa, hσa⟩ : ∃ s, s = σ0.made 2 := ⟨_, rfl⟩
  rw [← hσa]
  have na : σa.next = σ0.next + 1 := by rw [hσa]; rfl
  have ha : σa.abs = heapAbs σ0.next ⟨2, [], []⟩ := by rw [hσa]; rfl
  replace hR : RowsAt rowsU σa := fun g cs hm => by obtain ⟨t, f, e⟩ := hR g cs hm; exact ⟨t, f, by rw [hσa, made_get]; exact e⟩
  have gn : G ≤ σa.next := by omega
  clear hσa CN hno
  refine RW.nil ?_
  refine W.reset [(1, pp σ0.next)] ⟨rfl, trivial⟩ fun TA => ?_
  have C1 := s_cons (G := G) (0, 1) (1, 0) ha (by decide) rfl
  rw [show (⟨2, [], []⟩ : HM).push (.pair (0, 1) (1, 0)) = m1N from rfl] at C1
  refine W.seq ?_
  refine W.region ?_
  refine RW.val (by kernel_rfl) (by kernel_rfl) rfl (by kernel_rfl) ?_
  refine RW.call (by kernel_rfl) (by kernel_rfl) rfl rfl rfl (by kernel_rfl) (by kernel_rfl) ⟨_, _, (s_int _), ?_⟩
  refine RW.call (by kernel_rfl) (by kernel_rfl) rfl rfl rfl (by kernel_rfl) (by kernel_rfl) ⟨_, _, s_nilK, ?_⟩
  refine RW.call (by kernel_rfl) (by kernel_rfl) rfl rfl rfl (by kernel_rfl) (by kernel_rfl) ⟨_, _, C1, ?_⟩
  obtain ⟨σs1, hs⟩ : ∃ Z, Z = σa.with (heapAbs σ0.next (m1N)) := ⟨_, rfl⟩
  rw [← hs]
  have ns : σs1.next = σa.next := by rw [hs]; rfl
  have K : ∀ b y, σa.get b = some y → σs1.get b = some y := fun b y hy => by rw [hs, with_get]; exact hy
  replace hR : RowsAt rowsU σs1 := fun g cs hm => by obtain ⟨t, f, e⟩ := hR g cs hm; exact ⟨t, f, K _ _ e⟩
  replace gn : G ≤ σs1.next := by omega
  replace ha := (show σs1.abs = heapAbs σ0.next (m1N) by rw [hs]; rfl)
  clear K
  clear hs ns
  clear C1
  refine RW.nil ?_
  refine W.reset [(1, pp σ0.next)] ⟨rfl, trivial⟩ fun TA => ?_
  have C1 := s_text (G := G) (s := ⟨#[97]⟩) hR h16 ha (by decide) (by decide) (by decide) (by decide) rfl (by decide)
  rw [show m1N.push (.text ⟨#[97]⟩) = m2N from rfl] at C1
  refine W.seq ?_
  refine W.region ?_
  refine RW.val (by kernel_rfl) (by kernel_rfl) rfl (by kernel_rfl) ?_
  refine RW.call (by kernel_rfl) (by kernel_rfl) rfl rfl rfl (by kernel_rfl) (by kernel_rfl) ⟨_, _, C1, ?_⟩
  obtain ⟨σs2, hs⟩ : ∃ Z, Z = σs1.with (heapAbs σ0.next (m2N)) := ⟨_, rfl⟩
  rw [← hs]
  have ns : σs2.next = σs1.next := by rw [hs]; rfl
  have K : ∀ b y, σs1.get b = some y → σs2.get b = some y := fun b y hy => by rw [hs, with_get]; exact hy
  replace hR : RowsAt rowsU σs2 := fun g cs hm => by obtain ⟨t, f, e⟩ := hR g cs hm; exact ⟨t, f, K _ _ e⟩
  replace gn : G ≤ σs2.next := by omega
  replace ha := (show σs2.abs = heapAbs σ0.next (m2N) by rw [hs]; rfl)
  clear K
  clear hs ns
  clear C1
  refine RW.nil ?_
  refine W.reset [(1, pp σ0.next)] ⟨rfl, trivial⟩ fun TA => ?_
  refine W.seq ?_
  refine W.region ?_
  refine RW.val (by kernel_rfl) (by kernel_rfl) rfl (by kernel_rfl) ?_
  refine RW.call (by kernel_rfl) (by kernel_rfl) rfl rfl rfl (by kernel_rfl) (by kernel_rfl) ⟨_, _, (s_word _ _), ?_⟩
  refine RW.makeG (x := .row ⟨wdC [((3, 1) : Wd)], 24, false⟩) (fm := fun b => .slice (some ⟨b, 0, none⟩) 1 1) (by kernel_rfl) (by kernel_rfl) (by kernel_rfl) (by kernel_rfl) ?_; intro σw _ gm Gm nm
  have K : ∀ b y, σs2.get b = some y → σw.get b = some y := Gm.old
  replace hR : RowsAt rowsU σw := fun g cs hm => by obtain ⟨t, f, e⟩ := hR g cs hm; exact ⟨t, f, K _ _ e⟩
  replace gn : G ≤ σw.next := by omega
  replace ha := Gm.abs.trans ha
  clear K
  have hsl : Sl σw 2 (.slice (some ⟨σs2.next, 0, none⟩) 1 1) (wdC [((3, 1) : Wd)]) := .some gm rfl (fun i x hi => by simpa using hi)
  have C1 := s_collect (G := G) _ [((3, 1) : Wd)] [false, true] hsl ha (fun M' hM => marksN hM) (by decide) hR h16 m2N_texts
  rw [goneN] at C1
  refine RW.call (by kernel_rfl) (by kernel_rfl) rfl rfl rfl (by kernel_rfl) (by kernel_rfl) ⟨_, _, C1, ?_⟩
  obtain ⟨σs3, hs⟩ : ∃ Z, Z = σw.with (heapAbs σ0.next (m2N.swept [false, true])) := ⟨_, rfl⟩
  rw [← hs]
  have ns : σs3.next = σw.next := by rw [hs]; rfl
  have K : ∀ b y, σw.get b = some y → σs3.get b = some y := fun b y hy => by rw [hs, with_get]; exact hy
  replace hR : RowsAt rowsU σs3 := fun g cs hm => by obtain ⟨t, f, e⟩ := hR g cs hm; exact ⟨t, f, K _ _ e⟩
  replace gn : G ≤ σs3.next := by omega
  replace ha := (show σs3.abs = heapAbs σ0.next (m2N.swept [false, true]) by rw [hs]; rfl)
  clear K
  clear hs ns
  clear C1 hsl gm Gm nm
  refine RW.val (by kernel_rfl) (by kernel_rfl) rfl (by kernel_rfl) ?_
  refine RW.nil ?_
  refine W.reset [(1, pp σ0.next), (3, .int .i64 ((1 : Nat) : Int))] ⟨rfl, rfl, trivial⟩ fun TA => ?_
  have C1 := s_vecF (G := G) (k := 0) ha (by decide) (by kernel_rfl) (by kernel_rfl)
  rw [show (m2N.swept [false, true]).take 0 (.vec []) = m3N by kernel_rfl] at C1
  refine W.seq ?_
  refine W.region ?_
  refine RW.val (by kernel_rfl) (by kernel_rfl) rfl (by kernel_rfl) ?_
  refine RW.call (by kernel_rfl) (by kernel_rfl) rfl rfl rfl (by kernel_rfl) (by kernel_rfl) ⟨_, _, C1, ?_⟩
  refine RW.val (by kernel_rfl) (by kernel_rfl) rfl (by kernel_rfl) ?_
  refine RW.val (by kernel_rfl) (by kernel_rfl) rfl (by kernel_rfl) ?_
  refine RW.val (by kernel_rfl) (by kernel_rfl) rfl (by kernel_rfl) ?_
  obtain ⟨σs4, hs⟩ : ∃ Z, Z = σs3.with (heapAbs σ0.next (m3N)) := ⟨_, rfl⟩
  rw [← hs]
  have ns : σs4.next = σs3.next := by rw [hs]; rfl
  have K : ∀ b y, σs3.get b = some y → σs4.get b = some y := fun b y hy => by rw [hs, with_get]; exact hy
  replace hR : RowsAt rowsU σs4 := fun g cs hm => by obtain ⟨t, f, e⟩ := hR g cs hm; exact ⟨t, f, K _ _ e⟩
  replace gn : G ≤ σs4.next := by omega
  replace ha := (show σs4.abs = heapAbs σ0.next (m3N) by rw [hs]; rfl)
  clear K
  clear hs ns
  clear C1
  refine RW.varS (d := 4) (r0 := ⟨[.int .i64 0, .int .i64 0], 24, false⟩) (vs := #[.int .i64 ((4, 0) : Wd).1, .int .i64 ((4, 0) : Wd).2]) (by kernel_rfl) (by kernel_rfl) (by kernel_rfl) rfl (by kernel_rfl) rfl (by kernel_rfl) rfl rfl rfl rfl (by kernel_rfl) rfl (by omega) ?_
  intro σq5 _ r4 oq nq aq
  have K : ∀ b y, σs4.get b = some y → σq5.get b = some y := oq
  replace hR : RowsAt rowsU σq5 := fun g cs hm => by obtain ⟨t, f, e⟩ := hR g cs hm; exact ⟨t, f, K _ _ e⟩
  replace gn : G ≤ σq5.next := by omega
  replace ha := aq.trans ha
  clear K
  clear oq nq aq
  refine RW.val (by kernel_rfl) (by kernel_rfl) rfl (by kernel_rfl) ?_
  refine RW.nil ?_
  refine W.reset [(1, pp σ0.next), (3, .int .i64 ((1 : Nat) : Int)), (4, pp σs4.next), (5, .int .i64 0)] ⟨rfl, rfl, rfl, rfl, trivial⟩ fun TA => ?_
  have C1 := s_car (G := G) (1, 0) ha
  rw [show m3N.car (1, 0) = ((1, 0), 0) by kernel_rfl] at C1
  refine W.seq ?_
  refine W.region ?_
  refine RW.val (by kernel_rfl) (by kernel_rfl) rfl (by kernel_rfl) ?_
  refine RW.call (by kernel_rfl) (by kernel_rfl) rfl rfl rfl (by kernel_rfl) (by kernel_rfl) ⟨_, _, s_nilK, ?_⟩
  refine RW.call (by kernel_rfl) (by kernel_rfl) rfl rfl rfl (by kernel_rfl) (by kernel_rfl) ⟨_, _, C1, ?_⟩
  refine RW.val (by kernel_rfl) (by kernel_rfl) rfl (by kernel_rfl) ?_
  refine RW.val (by kernel_rfl) (by kernel_rfl) rfl (by kernel_rfl) ?_
  refine RW.val (by kernel_rfl) (by kernel_rfl) rfl (by kernel_rfl) ?_
  clear C1
  refine RW.varS (d := 6) (r0 := ⟨[.int .i64 0, .int .i64 0], 24, false⟩) (vs := #[.int .i64 ((1, 0) : Wd).1, .int .i64 ((1, 0) : Wd).2]) (by kernel_rfl) (by kernel_rfl) (by kernel_rfl) rfl (by kernel_rfl) rfl (by kernel_rfl) rfl rfl rfl rfl (by kernel_rfl) rfl (by omega) ?_
  intro σq6 _ r6 oq nq aq
  have K : ∀ b y, σq5.get b = some y → σq6.get b = some y := oq
  replace r4 := K _ _ r4
  replace hR : RowsAt rowsU σq6 := fun g cs hm => by obtain ⟨t, f, e⟩ := hR g cs hm; exact ⟨t, f, K _ _ e⟩
  replace gn : G ≤ σq6.next := by omega
  replace ha := aq.trans ha
  clear K
  clear oq nq aq
  refine RW.val (by kernel_rfl) (by kernel_rfl) rfl (by kernel_rfl) ?_
  refine RW.nil ?_
  refine W.reset [(1, pp σ0.next), (3, .int .i64 ((1 : Nat) : Int)), (4, pp σs4.next), (5, .int .i64 0), (6, pp σq5.next), (7, .int .i64 0)] ⟨rfl, rfl, rfl, rfl, rfl, rfl, trivial⟩ fun TA => ?_
  have C1 := s_car (G := G) (0, 5) ha
  rw [show m3N.car (0, 5) = ((0, 0), 6) by kernel_rfl] at C1
  refine W.seq ?_
  refine W.region ?_
  refine RW.val (by kernel_rfl) (by kernel_rfl) rfl (by kernel_rfl) ?_
  refine RW.call (by kernel_rfl) (by kernel_rfl) rfl rfl rfl (by kernel_rfl) (by kernel_rfl) ⟨_, _, (s_int _), ?_⟩
  refine RW.call (by kernel_rfl) (by kernel_rfl) rfl rfl rfl (by kernel_rfl) (by kernel_rfl) ⟨_, _, C1, ?_⟩
  refine RW.val (by kernel_rfl) (by kernel_rfl) rfl (by kernel_rfl) ?_
  refine RW.val (by kernel_rfl) (by kernel_rfl) rfl (by kernel_rfl) ?_
  refine RW.val (by kernel_rfl) (by kernel_rfl) rfl (by kernel_rfl) ?_
  clear C1
  refine RW.varS (d := 8) (r0 := ⟨[.int .i64 0, .int .i64 0], 24, false⟩) (vs := #[.int .i64 ((0, 0) : Wd).1, .int .i64 ((0, 0) : Wd).2]) (by kernel_rfl) (by kernel_rfl) (by kernel_rfl) rfl (by kernel_rfl) rfl (by kernel_rfl) rfl rfl rfl rfl (by kernel_rfl) rfl (by omega) ?_
  intro σq7 _ r8 oq nq aq
  have K : ∀ b y, σq6.get b = some y → σq7.get b = some y := oq
  replace r4 := K _ _ r4
  replace r6 := K _ _ r6
  replace hR : RowsAt rowsU σq7 := fun g cs hm => by obtain ⟨t, f, e⟩ := hR g cs hm; exact ⟨t, f, K _ _ e⟩
  replace gn : G ≤ σq7.next := by omega
  replace ha := aq.trans ha
  clear K
  clear oq nq aq
  refine RW.val (by kernel_rfl) (by kernel_rfl) rfl (by kernel_rfl) ?_
  clear r8
  refine RW.nil ?_
  refine W.reset [(1, pp σ0.next), (3, .int .i64 ((1 : Nat) : Int)), (4, pp σs4.next), (5, .int .i64 0), (6, pp σq5.next), (7, .int .i64 0), (9, .int .i64 6)] ⟨rfl, rfl, rfl, rfl, rfl, rfl, rfl, trivial⟩ fun TA => ?_
  refine W.seq ?_
  refine W.region ?_
  refine RW.call (by kernel_rfl) (by kernel_rfl) rfl rfl rfl (by kernel_rfl) (by kernel_rfl) ⟨_, _, s_new0, ?_⟩
  refine RW.val (by kernel_rfl) (by kernel_rfl) rfl (by kernel_rfl) ?_
  refine RW.val (by kernel_rfl) (by kernel_rfl) rfl (by kernel_rfl) ?_
  refine RW.val (by kernel_rfl) (by kernel_rfl) rfl (by kernel_rfl) ?_
  refine RW.val (by kernel_rfl) (by kernel_rfl) rfl (by kernel_rfl) ?_
  refine RW.val (by kernel_rfl) (by kernel_rfl) rfl (by kernel_rfl) ?_
  refine RW.nil ?_
  refine W.reset [(1, pp σ0.next), (3, .int .i64 ((1 : Nat) : Int)), (4, pp σs4.next), (5, .int .i64 0), (6, pp σq5.next), (7, .int .i64 0), (9, .int .i64 6), (11, .int .i64 3)] ⟨rfl, rfl, rfl, rfl, rfl, rfl, rfl, rfl, trivial⟩ fun TA => ?_
  have C1 := s_textBad (G := G) (s := ⟨#[255]⟩) hR h16 ha (by decide) (by decide)
  refine W.seq ?_
  refine W.region ?_
  refine RW.val (by kernel_rfl) (by kernel_rfl) rfl (by kernel_rfl) ?_
  refine RW.call (by kernel_rfl) (by kernel_rfl) rfl rfl rfl (by kernel_rfl) (by kernel_rfl) ⟨_, _, C1, ?_⟩
  refine RW.val (by kernel_rfl) (by kernel_rfl) rfl (by kernel_rfl) ?_
  refine RW.val (by kernel_rfl) (by kernel_rfl) rfl (by kernel_rfl) ?_
  refine RW.val (by kernel_rfl) (by kernel_rfl) rfl (by kernel_rfl) ?_
  clear C1
  refine RW.varS (d := 12) (r0 := ⟨[.int .i64 0, .int .i64 0], 24, false⟩) (vs := #[.int .i64 ((0, 0) : Wd).1, .int .i64 ((0, 0) : Wd).2]) (by kernel_rfl) (by kernel_rfl) (by kernel_rfl) rfl (by kernel_rfl) rfl (by kernel_rfl) rfl rfl rfl rfl (by kernel_rfl) rfl (by omega) ?_
  intro σq8 _ r12 oq nq aq
  have K : ∀ b y, σq7.get b = some y → σq8.get b = some y := oq
  replace r4 := K _ _ r4
  replace r6 := K _ _ r6
  replace hR : RowsAt rowsU σq8 := fun g cs hm => by obtain ⟨t, f, e⟩ := hR g cs hm; exact ⟨t, f, K _ _ e⟩
  replace gn : G ≤ σq8.next := by omega
  replace ha := aq.trans ha
  clear K
  clear oq nq aq
  refine RW.val (by kernel_rfl) (by kernel_rfl) rfl (by kernel_rfl) ?_
  clear r12
  refine RW.nil ?_
  refine W.reset [(1, pp σ0.next), (3, .int .i64 ((1 : Nat) : Int)), (4, pp σs4.next), (5, .int .i64 0), (6, pp σq5.next), (7, .int .i64 0), (9, .int .i64 6), (11, .int .i64 3), (13, .int .i64 5)] ⟨rfl, rfl, rfl, rfl, rfl, rfl, rfl, rfl, rfl, trivial⟩ fun TA => ?_
  refine W.seq ?_
  refine W.region ?_
  refine RW.val (by kernel_rfl) (by kernel_rfl) rfl (by kernel_rfl) ?_
  refine RW.nil ?_
  refine W.reset [(1, pp σ0.next), (3, .int .i64 ((1 : Nat) : Int)), (4, pp σs4.next), (5, .int .i64 0), (6, pp σq5.next), (7, .int .i64 0), (9, .int .i64 6), (11, .int .i64 3), (13, .int .i64 5), (14, .pointer none)] ⟨rfl, rfl, rfl, rfl, rfl, rfl, rfl, rfl, rfl, rfl, trivial⟩ fun TA => ?_
  refine W.seq ?_
  refine W.region ?_
  refine RW.val (by kernel_rfl) (by kernel_rfl) rfl (by kernel_rfl) ?_
  refine RW.call (by kernel_rfl) (by kernel_rfl) rfl rfl rfl (by kernel_rfl) (by kernel_rfl) ⟨_, _, s_nilK, ?_⟩
  refine RW.call (by kernel_rfl) (by kernel_rfl) rfl rfl rfl (by kernel_rfl) (by kernel_rfl) ⟨_, _, s_nilK, ?_⟩
  refine RW.call (by kernel_rfl) (by kernel_rfl) rfl rfl rfl (by kernel_rfl) (by kernel_rfl) ⟨_, _, s_consNil, ?_⟩
  refine RW.val (by kernel_rfl) (by kernel_rfl) rfl (by kernel_rfl) ?_
  refine RW.val (by kernel_rfl) (by kernel_rfl) rfl (by kernel_rfl) ?_
  refine RW.val (by kernel_rfl) (by kernel_rfl) rfl (by kernel_rfl) ?_
  refine RW.varS (d := 15) (r0 := ⟨[.int .i64 0, .int .i64 0], 24, false⟩) (vs := #[.int .i64 ((0, 0) : Wd).1, .int .i64 ((0, 0) : Wd).2]) (by kernel_rfl) (by kernel_rfl) (by kernel_rfl) rfl (by kernel_rfl) rfl (by kernel_rfl) rfl rfl rfl rfl (by kernel_rfl) rfl (by omega) ?_
  intro σq9 _ r15 oq nq aq
  have K : ∀ b y, σq8.get b = some y → σq9.get b = some y := oq
  replace r4 := K _ _ r4
  replace r6 := K _ _ r6
  replace hR : RowsAt rowsU σq9 := fun g cs hm => by obtain ⟨t, f, e⟩ := hR g cs hm; exact ⟨t, f, K _ _ e⟩
  replace gn : G ≤ σq9.next := by omega
  replace ha := aq.trans ha
  clear K
  clear oq nq aq
  refine RW.val (by kernel_rfl) (by kernel_rfl) rfl (by kernel_rfl) ?_
  clear r15
  refine RW.nil ?_
  refine W.reset [(1, pp σ0.next), (3, .int .i64 ((1 : Nat) : Int)), (4, pp σs4.next), (5, .int .i64 0), (6, pp σq5.next), (7, .int .i64 0), (9, .int .i64 6), (11, .int .i64 3), (13, .int .i64 5), (14, .pointer none), (16, .int .i64 1)] ⟨rfl, rfl, rfl, rfl, rfl, rfl, rfl, rfl, rfl, rfl, rfl, trivial⟩ fun TA => ?_
  have CM := s_limit (G := G) ha
  have CC : ∀ y : Wd, SCall G Tryd.prog 32 #[.pointer (some ⟨σ0.next, 0, none⟩), wdV (1, 0), wdV y] σq9 (.int .i64 6) σq9 := fun y => by
    have := s_setCar (G := G) (1, 0) y ha
    rw [show m3N.setCar (1, 0) y = (m3N, 6) by rfl] at this
    rwa [with_same ha] at this
  refine W.seq ?_
  refine W.drawnS (by kernel_rfl) (by kernel_rfl) gn ?_
  refine RW.val (by kernel_rfl) (by kernel_rfl) rfl (by kernel_rfl) ?_
  refine RW.val (by kernel_rfl) (by kernel_rfl) rfl (by kernel_rfl) ?_
  refine RW.val (by kernel_rfl) (by kernel_rfl) rfl (by kernel_rfl) ?_
  refine RW.val (by rfl) (by kernel_rfl) rfl (by kernel_rfl) ?_
  refine RW.val (by rfl) (by kernel_rfl) rfl (by kernel_rfl) ?_
  refine RW.val (by kernel_rfl) (by kernel_rfl) rfl (by kernel_rfl) ?_
  refine RW.val (by kernel_rfl) (by kernel_rfl) rfl (by kernel_rfl) ?_
  refine RW.loads 2 (by rfl) (by kernel_rfl) rfl rfl r4 rfl rfl (by kernel_rfl) ?_
  refine RW.call (by rfl) (by kernel_rfl) rfl rfl rfl (by kernel_rfl) (by kernel_rfl) ⟨_, _, (s_word _ _), ?_⟩
  refine RW.vop (v := .bool (true)) (by rfl) (by kernel_rfl) (vop_eqS (b := true) (r := true) rfl (.inl ⟨rfl, rfl⟩) rfl rfl rfl rfl (by kernel_rfl) (fun w => (eqWd _ _ _ _ w).trans (by simp))) (by kernel_rfl) ?_
  refine RW.val (by kernel_rfl) (by kernel_rfl) rfl (by kernel_rfl) ?_
  refine RW.val (by kernel_rfl) (by kernel_rfl) rfl (by kernel_rfl) ?_
  refine RW.val (by rfl) (by kernel_rfl) rfl (by kernel_rfl) ?_
  refine RW.val (by rfl) (by kernel_rfl) rfl (by kernel_rfl) ?_
  refine RW.val (by kernel_rfl) (by kernel_rfl) rfl (by kernel_rfl) ?_
  refine RW.val (by kernel_rfl) (by kernel_rfl) rfl (by kernel_rfl) ?_
  refine RW.loads 2 (by rfl) (by kernel_rfl) rfl rfl r6 rfl rfl (by kernel_rfl) ?_
  refine RW.call (by rfl) (by kernel_rfl) rfl rfl rfl (by kernel_rfl) (by kernel_rfl) ⟨_, _, s_nilK, ?_⟩
  refine RW.vop (v := .bool (true)) (by rfl) (by kernel_rfl) (vop_eqS (b := true) (r := true) rfl (.inl ⟨rfl, rfl⟩) rfl rfl rfl rfl (by kernel_rfl) (fun w => (eqWd _ _ _ _ w).trans (by simp))) (by kernel_rfl) ?_
  refine RW.val (by kernel_rfl) (by kernel_rfl) rfl (by kernel_rfl) ?_
  refine RW.val (by kernel_rfl) (by kernel_rfl) rfl (by kernel_rfl) ?_
  refine RW.val (by rfl) (by kernel_rfl) rfl (by kernel_rfl) ?_
  refine RW.val (by rfl) (by kernel_rfl) rfl (by kernel_rfl) ?_
  refine RW.val (by kernel_rfl) (by kernel_rfl) rfl (by kernel_rfl) ?_
  refine RW.val (by kernel_rfl) (by kernel_rfl) rfl (by kernel_rfl) ?_
  refine RW.val (by rfl) (by kernel_rfl) rfl (by kernel_rfl) ?_
  refine RW.val (by rfl) (by kernel_rfl) rfl (by kernel_rfl) ?_
  refine RW.val (by kernel_rfl) (by kernel_rfl) rfl (by kernel_rfl) ?_
  refine RW.val (by kernel_rfl) (by kernel_rfl) rfl (by kernel_rfl) ?_
  refine RW.val (by rfl) (by kernel_rfl) rfl (by kernel_rfl) ?_
  refine RW.val (by rfl) (by kernel_rfl) rfl (by kernel_rfl) ?_
  refine RW.val (by kernel_rfl) (by kernel_rfl) rfl (by kernel_rfl) ?_
  refine RW.val (by kernel_rfl) (by kernel_rfl) rfl (by kernel_rfl) ?_
  refine RW.val (by rfl) (by kernel_rfl) rfl (by kernel_rfl) ?_
  refine RW.val (by rfl) (by kernel_rfl) rfl (by kernel_rfl) ?_
  refine RW.val (by kernel_rfl) (by kernel_rfl) rfl (by kernel_rfl) ?_
  refine RW.val (by kernel_rfl) (by kernel_rfl) rfl (by kernel_rfl) ?_
  refine RW.val (by rfl) (by kernel_rfl) rfl (by kernel_rfl) ?_
  refine RW.call (by rfl) (by kernel_rfl) rfl rfl rfl (by kernel_rfl) (by kernel_rfl) ⟨_, _, s_manyNil, ?_⟩
  refine RW.val (by rfl) (by kernel_rfl) rfl (by kernel_rfl) ?_
  refine RW.val (by kernel_rfl) (by kernel_rfl) rfl (by kernel_rfl) ?_
  refine RW.val (by kernel_rfl) (by kernel_rfl) rfl (by kernel_rfl) ?_
  refine RW.val (by rfl) (by kernel_rfl) rfl (by kernel_rfl) ?_
  refine RW.call (by rfl) (by kernel_rfl) rfl rfl rfl (by kernel_rfl) (by kernel_rfl) ⟨_, _, s_roomNil, ?_⟩
  refine RW.val (by rfl) (by kernel_rfl) rfl (by kernel_rfl) ?_
  refine RW.val (by kernel_rfl) (by kernel_rfl) rfl (by kernel_rfl) ?_
  refine RW.val (by kernel_rfl) (by kernel_rfl) rfl (by kernel_rfl) ?_
  refine RW.val (by rfl) (by kernel_rfl) rfl (by kernel_rfl) ?_
  refine RW.call (by rfl) (by kernel_rfl) rfl rfl rfl (by kernel_rfl) (by kernel_rfl) ⟨_, _, s_copyNil, ?_⟩
  refine RW.val (by rfl) (by kernel_rfl) rfl (by kernel_rfl) ?_
  refine RW.val (by kernel_rfl) (by kernel_rfl) rfl (by kernel_rfl) ?_
  refine RW.val (by kernel_rfl) (by kernel_rfl) rfl (by kernel_rfl) ?_
  refine RW.val (by rfl) (by kernel_rfl) rfl (by kernel_rfl) ?_
  refine RW.call (by rfl) (by kernel_rfl) rfl rfl rfl (by kernel_rfl) (by kernel_rfl) ⟨_, _, CM, ?_⟩
  refine RW.val (by rfl) (by kernel_rfl) rfl (by kernel_rfl) ?_
  refine RW.val (by kernel_rfl) (by kernel_rfl) rfl (by kernel_rfl) ?_
  refine RW.val (by kernel_rfl) (by kernel_rfl) rfl (by kernel_rfl) ?_
  refine RW.val (by rfl) (by kernel_rfl) rfl (by kernel_rfl) ?_
  refine RW.call (by rfl) (by kernel_rfl) rfl rfl rfl (by kernel_rfl) (by kernel_rfl) ⟨_, _, s_nilK, ?_⟩
  refine RW.loads 2 (by rfl) (by kernel_rfl) rfl rfl r4 rfl rfl (by kernel_rfl) ?_
  refine RW.call (by rfl) (by kernel_rfl) rfl rfl rfl (by kernel_rfl) (by kernel_rfl) ⟨_, _, (CC _), ?_⟩
  refine RW.val (by rfl) (by kernel_rfl) rfl (by kernel_rfl) ?_
  refine RW.val (by kernel_rfl) (by kernel_rfl) rfl (by kernel_rfl) ?_
  refine RW.val (by kernel_rfl) (by kernel_rfl) rfl (by kernel_rfl) ?_
  refine RW.nil ?_
  refine ⟨⟨by kernel_rfl, ?_, fun b => rfl⟩, ?_⟩
  · repeat' (first | exact True.intro | exact fun _ => rfl | exact ⟨_, r4⟩ | exact ⟨_, r6⟩ | refine And.intro ?_ ?_)
  refine W.ret ?_
  exact endG (R := fun v _ => v = Value.bool true) rfl (resL_tmp rfl) rfl
theorem names_any (w : World) (hT : Tabs w) : Calls Tryd.prog 6 #[] w fun e w' => e = .returned (.bool true) ∧ Below w.heap.size w w' := by
  have h64 : ∀ g cs, (g, cs) ∈ rowsU → g < 64 := fun g cs hm => Nat.lt_of_lt_of_le (rowsU_low g cs hm) (by decide)
  have hnd : (rowsU.map (·.1)).Nodup := by unfold rowsU; simp
  obtain ⟨v, σ', hS, rfl⟩ := names_wc (G := 64) (σ0 := argMem rowsU []) (Nat.le_refl _) (by decide) (argMem_tab hnd h64) rfl
  exact arg_calls (rows := []) (rowsU_lie hT) h64 (fun k r hr => by simp at hr) ⟨rfl, fun i y y' h1 h2 => by simp at h1⟩ hS rfl
end Go.Proofs.YthmfiahmfdadgaaDoor
