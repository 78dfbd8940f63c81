/-
  ListsTaken in plain words: its heaps, its lists, what its calls answer. Conditions: none.
-/
import Derived.Test.YtehcckhdppdkcaaGreatDoorM5
namespace Go.Proofs.YtehcckhdppdkcaaGreatDoor
set_option maxRecDepth 100000
def xsI (l : List Int) : List Wd := l.map fun a => ((0 : Int), pickOf a 5)
abbrev atW (xs : List Wd) (j : Nat) : Wd := xs.getD j (0, 0)
/-- The heap behind i conses. -/
def hmC (xs : List Wd) : Nat → HM
  | 0 => hm0 400
  | i + 1 => (hmC xs i).push (.pair (atW xs i) (0, (i : Int)))
theorem hmC_is (xs : List Wd) : ∀ i, (hmC xs i).objs.length = i ∧ (hmC xs i).many = i ∧ (hmC xs i).limit = 400 ∧ (hmC xs i).free = []
  | 0 => ⟨rfl, rfl, rfl, rfl⟩
  | i + 1 => by
    obtain ⟨h1, h2, h3, h4⟩ := hmC_is xs i
    exact ⟨by simp [hmC, HM.push, h1], by rw [hmC, HM.many_push, h2], h3, h4⟩
theorem hmC_find (xs : List Wd) : ∀ (i j : Nat), j < i → (hmC xs i).find (2, (j : Int)) = some (.pair (atW xs j) (0, (j : Int)))
  | 0, j, h => absurd h (by omega)
  | i + 1, j, h => by
    obtain ⟨h1, _⟩ := hmC_is xs i
    refine find_at ?_
    simp only [hmC, HM.push]
    rcases Nat.lt_or_ge j i with h2 | h2
    · rw [List.getElem?_append_left (by omega)]
      have h3 := (HM.find_mem (hmC_find xs i j h2)).2.1
      simpa using h3
    · obtain rfl : j = i := by omega
      rw [List.getElem?_append_right (by omega), h1]
      simp
def prW (n : Nat) : List Wd := (List.range n).map fun j : Nat => ((2 : Int), (j : Int))
theorem prW_length (n : Nat) : (prW n).length = n := by simp [prW]
theorem prW_at {n j : Nat} (h : j < n) : (prW n).getD j (0, 0) = (2, (j : Int)) := by simp [prW, List.getD_eq_getElem?_getD, h]
theorem prW_succ (n : Nat) : prW (n + 1) = prW n ++ [(2, (n : Int))] := by simp [prW, List.range_succ]
theorem built_objs (m : HM) (l : List Wd) (t : Wd) : (built m l t).1.objs.length = m.objs.length + l.length := by
  unfold built
  rw [(bld_is m l t l.length).1]
  simp
/-- What is first among the first n: the place, or none. -/
def Ans (w : Wd) (a : Nat → Wd) (n : Nat) (at_ : Nat → Wd) (y : Wd) : Prop := (∃ p, p < n ∧ w = a p ∧ (∀ j, j < p → w ≠ a j) ∧ y = at_ p) ∨ ((∀ j, j < n → w ≠ a j) ∧ y = (1, 0))
theorem Ans.is {w : Wd} {a : Nat → Wd} {n : Nat} {at_ : Nat → Wd} {y : Wd} {v : Value} (h : Ans w a n at_ y) (k : (∃ i, i < n ∧ w = a i ∧ (∀ j, j < i → w ≠ a j) ∧ v = .tuple #[wdV (at_ i), .int .i64 0]) ∨ ((∀ j, j < n → w ≠ a j) ∧ v = .tuple #[wdV (1, 0), .int .i64 0])) : v = .tuple #[wdV y, .int .i64 0] := by
  rcases h with ⟨p, h1, h2, h3, rfl⟩ | ⟨h1, rfl⟩
  · rcases k with ⟨i, k1, k2, k3, rfl⟩ | ⟨k1, _⟩
    · have : i = p := by
        rcases Nat.lt_trichotomy i p with e | e | e
        · exact absurd k2 (h3 i e)
        · exact e
        · exact absurd h2 (k3 p e)
      rw [this]
    · exact absurd h2 (k1 p h1)
  · rcases k with ⟨i, k1, k2, _, _⟩ | ⟨_, rfl⟩
    · exact absurd k2 (h1 i k1)
    · rfl
/-- All that the law's calls make. -/
structure Tk (xs : List Wd) (w : Wd) (L : List Wd) (m1 m2 m3 m4 : HM) (a b r d : Wd) (cA cB cR cD' : Nat → Wd) : Prop where
  e1 : built (hmC xs xs.length) xs (1, 0) = (m1, a)
  e2 : built m1 (prW xs.length) (1, 0) = (m2, b)
  eL : remW w (atW xs) xs.length = L
  e3 : built m2 L (1, 0) = (m3, r)
  e4 : dropH m3 (keptW w cA (atW xs) xs.length) = (m4, d)
  zA : cA 0 = a
  zB : cB 0 = b
  zR : cR 0 = r
  zD : cD' 0 = d
  c1 : Chain m1 cA xs
  c2 : Chain m2 cA xs
  b2 : Chain m2 cB (prW xs.length)
  c3 : Chain m3 cA xs
  r4 : Chain m4 cR L
  d4 : Chain m4 cD' L
  k1 : m1.many = xs.length + xs.length
  k2 : m2.many = xs.length + xs.length + xs.length
  k3 : m3.many = xs.length + xs.length + xs.length + L.length
  k4 : m4.many = xs.length + xs.length + xs.length + L.length
  l1 : m1.limit = 400
  l2 : m2.limit = 400
  l3 : m3.limit = 400
  l4 : m4.limit = 400
  f1 : m1.free = []
  f2 : m2.free = []
  le : L.length ≤ xs.length
  pr : ∀ k, k < xs.length → ∃ d, m2.find ((prW xs.length).getD k (0, 0)) = some (.pair (atW xs k) d)
theorem tk (xs : List Wd) (w : Wd) : ∃ L m1 m2 m3 m4 a b r d cA cB cR cD', Tk xs w L m1 m2 m3 m4 a b r d cA cB cR cD' := by
  obtain ⟨q1, q2, q3, q4⟩ := hmC_is xs xs.length
  obtain ⟨m1, hm1⟩ : ∃ m, m = (built (hmC xs xs.length) xs (1, 0)).1 := ⟨_, rfl⟩
  obtain ⟨m2, hm2⟩ : ∃ m, m = (built m1 (prW xs.length) (1, 0)).1 := ⟨_, rfl⟩
  obtain ⟨L, hL⟩ : ∃ L, L = remW w (atW xs) xs.length := ⟨_, rfl⟩
  obtain ⟨m3, hm3⟩ : ∃ m, m = (built m2 L (1, 0)).1 := ⟨_, rfl⟩
  obtain ⟨cA, hA⟩ : ∃ c, c = consOf (hmC xs xs.length) xs (1, 0) := ⟨_, rfl⟩
  have o1 : m1.objs.length = xs.length + xs.length := by rw [hm1, built_objs, q1]
  have o2 : m2.objs.length = xs.length + xs.length + xs.length := by rw [hm2, built_objs, o1, prW_length]
  have c1 : Chain m1 cA xs := by rw [hm1, hA]; exact chain_built _ _
  have c2 : Chain m2 cA xs := by rw [hm2]; exact c1.mono (finds_built _ _ _)
  have c3 : Chain m3 cA xs := by rw [hm3]; exact c2.mono (finds_built _ _ _)
  have r3 : Chain m3 (consOf m2 L (1, 0)) L := by rw [hm3]; exact chain_built _ _
  have nA : ∀ j, j < xs.length → cA j = (2, ((xs.length + xs.length - 1 - j : Nat) : Int)) := fun j hj => by rw [hA]; unfold consOf; rw [if_pos hj, q1]
  have hd : ∀ i j, i < j → j < xs.length → (cA i).2.toNat ≠ (cA j).2.toNat := fun i j h1 h2 => by rw [nA i (by omega), nA j h2]; simp only [Int.toNat_natCast]; omega
  obtain ⟨g1, g2, g3, g4, g5⟩ := dropH_is (apart_kept (x := w) c3.2 hd)
  have k1 : m1.many = xs.length + xs.length := by rw [hm1, built_many, q2]
  have k2 : m2.many = xs.length + xs.length + xs.length := by rw [hm2, built_many, k1, prW_length]
  have k3 : m3.many = xs.length + xs.length + xs.length + L.length := by rw [hm3, built_many, k2]
  have l1 : m1.limit = 400 := by rw [hm1, built_limit, q3]
  have l2 : m2.limit = 400 := by rw [hm2, built_limit, l1]
  have l3 : m3.limit = 400 := by rw [hm3, built_limit, l2]
  have f1 : m1.free = [] := by rw [hm1, built_free, q4]
  have f2 : m2.free = [] := by rw [hm2, built_free, f1]
  have eF : xs.filter (fun y => !decide (w = y)) = L := by
    rw [hL]; unfold remW
    rw [show firstN (atW xs) xs.length = xs from firstN_getD xs]
  refine ⟨L, m1, m2, m3, (dropH m3 (keptW w cA (atW xs) xs.length)).1, _, _, _, _, cA, consOf m1 (prW xs.length) (1, 0), consOf m2 L (1, 0), cD (keptW w cA (atW xs) xs.length), ⟨by rw [hm1], by rw [hm2], hL.symm, by rw [hm3], rfl, by rw [hA]; exact (built_word _ _ _).symm, (built_word _ _ _).symm, (built_word _ _ _).symm, (dropH_word _ _).symm, c1, c2, by rw [hm2]; exact chain_built _ _, c3, ?_, ?_, k1, k2, k3, g1.trans k3, l1, l2, l3, g2.trans l3, f1, f2, by rw [hL]; exact remW_le _ _ _, fun k hk => ?_⟩⟩
  · refine ⟨r3.1, fun j hj => ?_⟩
    rw [g4 _ fun y hy => ?_]
    · exact r3.2 j hj
    · unfold keptW at hy
      obtain ⟨i, hi, rfl⟩ := List.mem_map.1 hy
      have hi' : i < xs.length := by simpa using (List.mem_filter.1 hi).1
      rw [nA i hi']
      unfold consOf
      rw [if_pos hj, o2]
      simp only [Int.toNat_natCast]
      omega
  · have := chain_dropped (x := w) c3 hd
    rw [eF] at this
    exact this
  · rw [prW_at hk]
    refine ⟨(0, (k : Int)), ?_⟩
    rw [hm2]
    refine finds_built _ _ _ _ _ ?_
    rw [hm1]
    exact finds_built _ _ _ _ _ (hmC_find xs xs.length k hk)
section
variable {G h : Nat} {m : HM} {σ σ0 : Mem}
theorem memq_t {c : Nat → Wd} {xs : List Wd} {x w y : Wd} (hx : c 0 = x) (hG : G ≤ σ0.next) (ha : σ0.abs = heapAbs h m) (hlim : 0 < m.limit) (hp : Chain m c xs) (hn : xs.length ≤ 65535) (hA : Ans w (atW xs) xs.length c y) :
    WC G Tryz.prog 27 #[pp h, wdV w, wdV x] σ0 fun v σ' => v = .tuple #[wdV y, .int .i64 0] ∧ Grow σ0 σ' := by
  subst hx
  refine (memq_wc w hG ha hlim hp.2 (.inr ⟨by omega, .inl (by rw [hp.1]; decide)⟩)).mono fun v σ' H => ⟨?_, H.1⟩
  refine hA.is ?_
  rcases H.2 with ⟨i, h1, _, h3, h4, h5⟩ | ⟨h1, _⟩ | ⟨_, _, h3, _⟩ | ⟨_, h2, _, h4⟩
  · exact .inl ⟨i, h1, h3, h4, h5⟩
  · omega
  · exact absurd hp.1 h3
  · exact .inr ⟨h2, h4⟩
theorem member_t {c : Nat → Wd} {xs : List Wd} {x y : Wd} {wi : Int} (hx : c 0 = x) (hG : G ≤ σ0.next) (ha : σ0.abs = heapAbs h m) (hlim : 0 < m.limit) (hp : Chain m c xs) (hn : xs.length ≤ 65535) (hint : ∀ j, j < xs.length → ∃ b, atW xs j = (0, b)) (hA : Ans (0, wi) (atW xs) xs.length c y) :
    WC G Tryz.prog 35 #[pp h, wdV (0, wi), wdV x] σ0 fun v σ' => v = .tuple #[wdV y, .int .i64 0] ∧ Grow σ0 σ' := by
  subst hx
  exact (member_wc wi hG ha hlim hp.2 (by omega) hp.1 hint).mono fun v σ' H => ⟨hA.is H.2, H.1⟩
theorem assq_t {c : Nat → Wd} {ps xs : List Wd} {x w y : Wd} (hx : c 0 = x) (hG : G ≤ σ0.next) (ha : σ0.abs = heapAbs h m) (hlim : 0 < m.limit) (hp : Chain m c ps) (hl : ps.length = xs.length) (hn : xs.length ≤ 65535) (hpr : ∀ k, k < xs.length → ∃ d, m.find (ps.getD k (0, 0)) = some (.pair (atW xs k) d)) (hA : Ans w (atW xs) xs.length (atW ps) y) :
    WC G Tryz.prog 36 #[pp h, wdV w, wdV x] σ0 fun v σ' => v = .tuple #[wdV y, .int .i64 0] ∧ Grow σ0 σ' := by
  subst hx
  refine (assq_wc (el := atW xs) w hG ha hlim hp.2 (by omega) hp.1 (fun k hk => hpr k (by omega))).mono fun v σ' H => ⟨hA.is ?_, H.1⟩
  have := H.2
  rwa [hl] at this
theorem delq_t {c : Nat → Wd} {xs : List Wd} {x w d : Wd} {m4 : HM} (hx : c 0 = x) (hG : G ≤ σ0.next) (ha : σ0.abs = heapAbs h m) (hlim : 0 < m.limit) (hp : Chain m c xs) (hn : xs.length ≤ 65535) (e : dropH m (keptW w c (atW xs) xs.length) = (m4, d)) :
    WC G Tryz.prog 38 #[pp h, wdV w, wdV x] σ0 fun v σ' => v = .tuple #[wdV d, .int .i64 0] ∧ GrowA σ0 σ' ∧ σ'.abs = heapAbs h m4 := by
  subst hx
  refine (delq_wc w hG ha hlim hp.2 (by omega) hp.1).mono fun v σ' H => ?_
  rw [show (fun j => xs.getD j (0, 0)) = atW xs from rfl, e] at H
  exact H
theorem remove_t {c : Nat → Wd} {xs L : List Wd} {x : Wd} {wi : Int} (hx : c 0 = x) (hG : G ≤ σ0.next) (ha : σ0.abs = heapAbs h m) (hf : m.free = []) (hlo : 0 < m.limit) (hlim : m.limit ≤ 65536) (hp : Chain m c xs) (hn : xs.length ≤ 65535) (hr : m.many + xs.length ≤ m.limit) (hint : ∀ j, j < xs.length → ∃ b, atW xs j = (0, b)) (e : remW (0, wi) (atW xs) xs.length = L) :
    WC G Tryz.prog 37 #[pp h, wdV (0, wi), wdV x] σ0 (BuildR h m L (1, 0) σ0) := by
  subst hx
  have := remove_wc wi hG ha hf hlo hlim hr hp.2 (by omega) hp.1 hint
  rw [← e]
  exact this
end
/-- Three rows that append has grown, none in another's place. -/
structure Three (G : Nat) (σ : Mem) (N : Nat) (v1 v2 v3 : Value) (l1 l2 l3 : List Wd) : Prop where
  g1 : GRow G σ 37 2 v1 l1.length (wdC l1)
  g2 : GRow G σ 37 2 v2 l2.length (wdC l2)
  g3 : GRow G σ 37 2 v3 l3.length (wdC l3)
  f1 : ∀ b, blkOf v1 = some b → N ≤ b
  f2 : ∀ b, blkOf v2 = some b → N ≤ b
  f3 : ∀ b, blkOf v3 = some b → N ≤ b
  d12 : ∀ b, blkOf v1 = some b → blkOf v2 ≠ some b
  d13 : ∀ b, blkOf v1 = some b → blkOf v3 ≠ some b
  d23 : ∀ b, blkOf v2 = some b → blkOf v3 ≠ some b
section
variable {G N : Nat} {σ σ' : Mem} {v1 v2 v3 : Value} {l1 l2 l3 : List Wd}
theorem Three.old (T : Three G σ N v1 v2 v3 l1 l2 l3) (k : ∀ b y, σ.get b = some y → σ'.get b = some y) : Three G σ' N v1 v2 v3 l1 l2 l3 := ⟨grow_old T.g1 k, grow_old T.g2 k, grow_old T.g3 k, T.f1, T.f2, T.f3, T.d12, T.d13, T.d23⟩
theorem Three.rot (T : Three G σ N v1 v2 v3 l1 l2 l3) : Three G σ N v2 v3 v1 l2 l3 l1 := ⟨T.g2, T.g3, T.g1, T.f2, T.f3, T.f1, T.d23, fun b h2 h1 => T.d12 b h1 h2, fun b h3 h1 => T.d13 b h1 h3⟩
theorem Three.app (T : Three G σ N v1 v2 v3 l1 l2 l3) (x : Wd) (hG : G ≤ σ.next) (hN : N ≤ σ.next) (hb : l1.length + 1 ≤ 1000000) :
    ∃ v' cmd, appendF G Tryz.prog (σ.push (.row ⟨wdC [x], 37, false⟩)) 29 29 v1 (.slice (some ⟨σ.next, 0, none⟩) 1 1) = some (v', cmd) ∧ Three G (cmd.app (σ.push (.row ⟨wdC [x], 37, false⟩))) N v' v2 v3 (l1 ++ [x]) l2 l3 ∧ σ.next ≤ (cmd.app (σ.push (.row ⟨wdC [x], 37, false⟩))).next ∧ (cmd.app (σ.push (.row ⟨wdC [x], 37, false⟩))).abs = σ.abs ∧
      ∀ b y, σ.get b = some y → blkOf v1 ≠ some b → (cmd.app (σ.push (.row ⟨wdC [x], 37, false⟩))).get b = some y := by
  obtain ⟨v', cmd, k1, k2, k3, k4, k5, k6⟩ := grow_push (P := Tryz.prog) (t := 29) (u := 29) (e2 := 37) (r := ⟨wdC [x], 37, false⟩) (n := 1) T.g1 hG (by kernel_rfl) (by kernel_rfl) (by kernel_rfl) (by decide) (by decide) rfl rfl hb
  refine ⟨v', cmd, k1, ⟨?_, T.g2.keep fun b hb' => ?_, T.g3.keep fun b hb' => ?_, fun b hb' => ?_, T.f2, T.f3, fun b h1 h2 => ?_, fun b h1 h2 => ?_, T.d23⟩, k3, k4, k5⟩
  · rw [List.length_append, show wdC (l1 ++ [x]) = wdC l1 ++ wdC [x] by simp [wdC]]
    exact k2
  · obtain ⟨r, h1, _⟩ := T.g2.is hb'
    rw [h1, k5 _ _ h1 fun e => T.d12 _ e hb']
  · obtain ⟨r, h1, _⟩ := T.g3.is hb'
    rw [h1, k5 _ _ h1 fun e => T.d13 _ e hb']
  · rcases k6 b hb' with h2 | h2
    · exact T.f1 b h2
    · omega
  · rcases k6 b h1 with h3 | h3
    · exact T.d12 b h3 h2
    · have := (T.g2.lt h2).2; omega
  · rcases k6 b h1 with h3 | h3
    · exact T.d13 b h3 h2
    · have := (T.g3.lt h2).2; omega
end
/-- A row of numbers, as the law has it. -/
structure ArgI (G : Nat) (σ : Mem) (v : Value) (l : List Int) : Prop where
  len : lenF Tryz.prog 61 v = some (.int .i64 l.length)
  row : 0 < l.length → ∃ b c r, v = .slice (some ⟨b, 0, none⟩) l.length c ∧ b < G ∧ σ.get b = some (.row r) ∧ ∀ (j : Nat) x, l[j]? = some x → r.cs[j]? = some (.int .i64 x)
  bnd : ∀ x ∈ l, -9223372036854775808 ≤ x ∧ x ≤ 9223372036854775807
theorem ArgI.at {G : Nat} {σ : Mem} {v : Value} {l : List Int} (h : ArgI G σ v l) {k : Nat} (hk : k < l.length) : ∃ b c r x, v = .slice (some ⟨b, 0, none⟩) l.length c ∧ b < G ∧ σ.get b = some (.row r) ∧ r.cs[0 + (k : Int).toNat * 1]? = some (.int .i64 x) ∧ -9223372036854775808 ≤ x ∧ x ≤ 9223372036854775807 ∧ l.getD k 0 = x := by
  obtain ⟨b, c, r, h1, h2, h3, h4⟩ := h.row (by omega)
  have hx := List.getElem?_eq_getElem hk
  obtain ⟨k1, k2⟩ := h.bnd _ (List.getElem_mem hk)
  exact ⟨b, c, r, l[k], h1, h2, h3, by simpa using h4 k _ hx, k1, k2, by rw [List.getD_eq_getElem?_getD, hx]; rfl⟩
theorem xsI_length (l : List Int) : (xsI l).length = l.length := by simp [xsI]
theorem xsI_at {l : List Int} {k : Nat} (hk : k < l.length) : atW (xsI l) k = (0, pickOf (l.getD k 0) 5) := by
  simp [atW, xsI, List.getD_eq_getElem?_getD, hk]
/-- Where the law stands with its first match. -/
def AtI (w : Wd) (a : Nat → Wd) (i : Nat) (p : Int) : Prop := (p = -1 ∧ ∀ j, j < i → w ≠ a j) ∨ ∃ q : Nat, p = (q : Int) ∧ q < i ∧ w = a q ∧ ∀ j, j < q → w ≠ a j
theorem AtI.no {w : Wd} {a : Nat → Wd} {i : Nat} {p : Int} (h : AtI w a i p) (hw : w ≠ a i) : AtI w a (i + 1) p := by
  rcases h with ⟨h1, h2⟩ | ⟨q, h1, h2, h3, h4⟩
  · refine .inl ⟨h1, fun j hj => ?_⟩
    rcases Nat.lt_or_ge j i with h | h
    · exact h2 j h
    · obtain rfl : j = i := by omega
      exact hw
  · exact .inr ⟨q, h1, by omega, h3, h4⟩
theorem AtI.yes {w : Wd} {a : Nat → Wd} {i : Nat} {p : Int} (h : AtI w a i p) (hp : 0 ≤ p) : AtI w a (i + 1) p := by
  rcases h with ⟨h1, h2⟩ | ⟨q, h1, h2, h3, h4⟩
  · omega
  · exact .inr ⟨q, h1, by omega, h3, h4⟩
theorem AtI.here {w : Wd} {a : Nat → Wd} {i : Nat} {p : Int} (h : AtI w a i p) (hp : p < 0) (hw : w = a i) : AtI w a (i + 1) (i : Int) := by
  rcases h with ⟨h1, h2⟩ | ⟨q, h1, h2, h3, h4⟩
  · exact .inr ⟨i, rfl, by omega, hw, h2⟩
  · omega
end Go.Proofs.YtehcckhdppdkcaaGreatDoor
