/-
  Slices of words in the second memory: how they read, what Own makes of them. Conditions: none.
-/
import Derived.Test.YthmfiahmfdadgaaDoorHg
import Derived.Test.YthmfiahmfdadgaaDoorS3
namespace Go.Proofs.YthmfiahmfdadgaaDoor
open Go.RowKit
set_option maxRecDepth 100000
section
variable {G h : Nat} {m : HM} {σ σ0 : Mem}
theorem resW {ta : Nat → Value} {a : Tmp} {b : Nat} {t : TypeId} {g : Bool} {x y : Int} {vs : List Value} {rv : List ResultVar} (ha : ta a = .pointer (some ⟨b, 0, none⟩)) (hr : σ.get b = some (.row ⟨[.int .i64 x, .int .i64 y], t, g⟩)) (k : resL Tryd.prog ta σ rv = some vs) : resL Tryd.prog ta σ (.cell a 24 :: rv) = some (.agg #[.int .i64 x, .int .i64 y] :: vs) :=
  resL_cell (n := 2) ha hr ((uT_eq _ _).trans Tryd.underlying24) (by kernel_rfl) rfl (by kernel_rfl) k
theorem s_nilK : SCall G Tryd.prog 21 #[] σ (wdV (1, 0)) σ :=
  closed_scall (G := 16) (n := 100) (K := noK []) (args := []) noK_right (by kernel_rfl) rfl rfl (fun _ _ h => by cases h) (fun _ _ h => by cases h) (fun _ _ h => by cases h) σ (fun _ _ h => by cases h)
abbrev pp (b : Nat) : Value := .pointer (some ⟨b, 0, none⟩)
abbrev wrow (x : Wd) : Blk2 := .row ⟨[.int .i64 x.1, .int .i64 x.2], 24, false⟩
end
theorem set1_put {σ : Mem} {b : Nat} {x y : Blk2} (h : σ.get b = some y) : Set1 σ (σ.put b x) b x := ⟨get_put h, fun _ _ hc hy => get_put_ne hy hc, rfl, rfl⟩
section
variable {G h : Nat} {m : HM} {σ : Mem}
theorem resS {ta : Nat → Value} {a : Tmp} {b : Nat} {t : TypeId} {g : Bool} {v : Value} {vs : List Value} {rv : List ResultVar} (ha : ta a = .pointer (some ⟨b, 0, none⟩)) (hr : σ.get b = some (.row ⟨[v], t, g⟩)) (k : resL Tryd.prog ta σ rv = some vs) : resL Tryd.prog ta σ (.cell a 22 :: rv) = some (v :: vs) :=
  resL_cell (n := 1) ha hr ((uT_eq _ _).trans Tryd.underlying22) (by kernel_rfl) rfl (by kernel_rfl) k
theorem resE {ta : Nat → Value} {a : Tmp} {b : Nat} {t : TypeId} {g : Bool} {v : Value} {vs : List Value} {rv : List ResultVar} (ha : ta a = .pointer (some ⟨b, 0, none⟩)) (hr : σ.get b = some (.row ⟨[v], t, g⟩)) (k : resL Tryd.prog ta σ rv = some vs) : resL Tryd.prog ta σ (.cell a 27 :: rv) = some (v :: vs) :=
  resL_cell (n := 1) ha hr ((uT_eq _ _).trans Tryd.underlying27) (by kernel_rfl) rfl (by kernel_rfl) k
end
theorem sl_old {σ σ' : Mem} {s : Nat} {v : Value} {xs : List Value} (h : Sl σ s v xs) (k : ∀ b y, σ.get b = some y → σ'.get b = some y) : Sl σ' s v xs := by
  cases h with
  | nil => exact .nil
  | some hr hx hc => exact .some (k _ _ hr) hx hc
theorem sl_at {σ : Mem} {v : Value} {l : List Wd} (h : Sl σ 2 v (wdC l)) {j : Nat} (hj : j < l.length) : ∃ b p sp c r, v = .slice (some ⟨b, p, sp⟩) l.length c ∧ σ.get b = some (.row r) ∧ (r.cs.drop (p + ((j : Nat) : Int).toNat * 2)).take 2 = [.int .i64 (l.getD j (0, 0)).1, .int .i64 (l.getD j (0, 0)).2] := by
  have hlen := wdC_length l
  generalize hxs : wdC l = xs at h
  cases h with
  | nil => rw [hxs] at hlen; simp at hlen; exact absurd hj (by omega)
  | @some b p n c sp r _ hr hx hc =>
    rw [hxs, hx] at hlen
    obtain rfl : n = l.length := by omega
    refine ⟨b, p, sp, c, r, rfl, hr, ?_⟩
    obtain ⟨w0, w1⟩ := wdC_get l j hj
    rw [hxs] at w0 w1
    have c0 := hc _ _ w0
    have c1 := hc _ _ w1
    have hg : l.getD j (0, 0) = l[j] := by simp [List.getD_eq_getElem?_getD, hj]
    rw [hg, Int.toNat_natCast]
    have h1 : p + j * 2 + 1 < r.cs.length := by
      rw [← Nat.add_assoc] at c1
      exact (List.getElem?_eq_some_iff.1 c1).1
    rw [List.drop_eq_getElem_cons (by omega), List.drop_eq_getElem_cons (by omega)]
    rw [List.getElem?_eq_getElem (by omega)] at c0
    rw [show p + (j * 2 + 1) = p + j * 2 + 1 by omega, List.getElem?_eq_getElem h1] at c1
    simp only [List.take_succ_cons, List.take_zero]
    rw [Option.some.inj c0, Option.some.inj c1]
/-- A slice of words, empty or as it lies. -/
def SlW (σ : Mem) (v : Value) (l : List Wd) : Prop := 0 < l.length → Sl σ 2 v (wdC l)
theorem slw_old {σ σ' : Mem} {v : Value} {l : List Wd} (h : SlW σ v l) (k : ∀ b y, σ.get b = some y → σ'.get b = some y) : SlW σ' v l := fun hl => sl_old (h hl) k
section
variable {G h : Nat} {m : HM} {σ σ0 σ' : Mem}
/-- All that lay there lies there; the heap may have turned. -/
structure GrowA (σ σ' : Mem) : Prop where
  old : ∀ b y, σ.get b = some y → σ'.get b = some y
  nx : σ.next ≤ σ'.next
theorem Grow.a (h : Grow σ σ') : GrowA σ σ' := ⟨h.old, h.nx⟩
theorem GrowA.trans {σ2 : Mem} (h : GrowA σ σ') (k : GrowA σ' σ2) : GrowA σ σ2 := ⟨fun b y hy => k.old b y (h.old b y hy), Nat.le_trans h.nx k.nx⟩
theorem int_any (a : Int) (w : World) : Calls Tryd.prog 20 #[.int .i64 a] w fun e w' => e = .returned (.agg #[.int .i64 0, .int .i64 a]) ∧ Below w.heap.size w w' := by
  go_enter Tryd.func20, Tryd.ntmps20
  go_wp2
  exact bodyPost_ret (v := .agg #[.int .i64 0, .int .i64 a]) (by simp [results, Tryd.results20, go_sem]) rfl ⟨rfl, (Below.refl _ _).alloc (Nat.le_refl _) _⟩
theorem s_int (a : Int) : SCall G Tryd.prog 20 #[.int .i64 a] σ (wdV (0, a)) σ := below_call rfl rfl fun w => int_any a w
theorem gr_row {v : Value} {xs : List Value} {n : Nat} {e : TypeId} (g : GRow G σ e 2 v n xs) (hn : 0 < n) : ∃ q c r, v = .slice (some ⟨q, 0, some 2⟩) n c ∧ G ≤ q ∧ σ.get q = some (.row r) ∧ r.t = e ∧ r.cs.length = c * 2 ∧ n ≤ c ∧ r.cs.take (n * 2) = xs := by
  cases g with
  | nil => omega
  | row hq hr ht hc hl hx => exact ⟨_, _, _, rfl, hq, hr, ht, hc, hl, hx⟩
theorem GRow.one {e : TypeId} {s n : Nat} {v : Value} {xs : List Value} (g : GRow G σ e s v n xs) : v.cells.toList = [v] := by cases g <;> rfl
end
/-- A slice of words as it reads. -/
structure Vw (σ : Mem) (v : Value) (l : List Wd) : Prop where
  len : lenF Tryd.prog 22 v = some (.int .i64 l.length)
  at_ : SlW σ v l
theorem Vw.old {σ σ' : Mem} {v : Value} {l : List Wd} (h : Vw σ v l) (k : ∀ b y, σ.get b = some y → σ'.get b = some y) : Vw σ' v l := ⟨h.len, slw_old h.at_ k⟩
/-- A slice that Own has made, and what append makes of it. -/
inductive OwnW (G : Nat) (σ : Mem) : Value → List Wd → Prop
  | emp {b : Nat} {g : Bool} (hb : G ≤ b) (hr : σ.get b = some (.row ⟨[], 24, g⟩)) : OwnW G σ (.slice (some ⟨b, 0, none⟩) 0 0) []
  | row {v : Value} {l : List Wd} (h0 : 0 < l.length) (h : GRow G σ 24 2 v l.length (wdC l)) : OwnW G σ v l
section
variable {G h : Nat} {m : HM} {σ σ0 : Mem}
theorem OwnW.vw {v : Value} {l : List Wd} (h : OwnW G σ v l) : Vw σ v l := by
  cases h with
  | emp hb hr => exact ⟨by kernel_rfl, fun h => absurd h (by simp)⟩
  | row h0 h => exact ⟨h.len (by kernel_rfl), fun _ => h.sl⟩
theorem own_append {v x : Value} {l l2 : List Wd} (h : OwnW G σ v l) (hx : srcF σ 2 x = some (l2.length, wdC l2)) (hG : G ≤ σ.next) (hb : l.length + l2.length ≤ 1000000) :
    ∃ v' cmd, appendF G Tryd.prog σ 22 22 v x = some (v', cmd) ∧ OwnW G (cmd.app σ) v' (l ++ l2) ∧ σ.next ≤ (cmd.app σ).next ∧ (cmd.app σ).abs = σ.abs ∧ (∀ b y, σ.get b = some y → blkOf v ≠ some b → (cmd.app σ).get b = some y) ∧ (blkOf v' = blkOf v ∨ blkOf v' = some σ.next) := by
  obtain ⟨i, z, h1, h2, h3, h4, h5⟩ := infoB_ok (P := Tryd.prog) (e := 24) (s := 2) (m := 64) (by kernel_rfl)
  have ht : uT Tryd.prog 22 = some (.slice 24) := by kernel_rfl
  have hsrc : srcG (.slice 24) i z σ x = some (l2.length, wdC l2) := by
    show srcF σ i.size x = _
    rw [h4]; exact hx
  have hcond : z.cells.size = i.size ∧ 0 < i.size := ⟨h3, by omega⟩
  by_cases hn : l2.length = 0
  · obtain rfl : l2 = [] := List.length_eq_zero_iff.1 hn
    refine ⟨v, .same, ?_, by rw [List.append_nil]; exact h, Nat.le_refl _, rfl, fun _ _ h _ => h, .inl rfl⟩
    unfold appendF
    simp only [ht, h1, h2, hcond, hsrc, and_self, if_true, List.length_nil]
    cases h with
    | emp hb hr => rfl
    | row h0 h =>
      obtain ⟨q, c, r, rfl, _, _, _, _, hl, _⟩ := gr_row h h0
      simp [hl]
  · cases h with
    | @emp b g hb0 hr =>
      refine ⟨.slice (some ⟨σ.next, 0, some 2⟩) (0 + l2.length) (0 + l2.length), .push (.row ⟨(([] : List Value).drop 0).take (0 * 2) ++ wdC l2, 24, true⟩), ?_, ?_, Nat.le_succ _, rfl, fun b y hy _ => get_push_old hy, .inr rfl⟩
      · unfold appendF
        have hmul : l2.length * i.bytes ≤ 1000000 * 64 := Nat.mul_le_mul (by simpa using hb) h5
        simp only [ht, h1, h2, hcond, hsrc, and_self, if_true, if_neg hn, hr]
        rw [if_neg (by omega), if_pos (by rw [h4]; simp; simp at hb; omega), h4]
      · simp only [List.nil_append, Nat.zero_add, Nat.zero_mul, List.take_zero, List.drop_zero]
        refine .row (by omega) (.row (by omega) get_push rfl (wdC_length l2) (Nat.le_refl _) ?_)
        show (wdC l2).take _ = _
        rw [← wdC_length l2, List.take_length]
    | row h0 h =>
      have hmul : (l.length + l2.length) * i.bytes ≤ 1000000 * 64 := Nat.mul_le_mul hb h5
      obtain ⟨v', cmd, k1, k2, k3, k4, k5, k6⟩ := grow_append (P := Tryd.prog) h hG ht ht h1 h2 h3 h4 (by decide) hsrc (by omega) (List.all_eq_true.2 (wdC_one l2)) ⟨by omega, by omega⟩
      refine ⟨v', cmd, k1, .row (by rw [List.length_append]; omega) ?_, k3, k4, k5, k6⟩
      rw [List.length_append, show wdC (l ++ l2) = wdC l ++ wdC l2 by simp [wdC]]
      exact k2
theorem own_wc {v : Value} {l : List Wd} (hG : G ≤ σ0.next) (_hs : srcF σ0 2 v = some (l.length, wdC l)) (hk : ∀ σ, (∀ b y, σ0.get b = some y → σ.get b = some y) → srcF σ 2 v = some (l.length, wdC l)) (hb : l.length ≤ 1000000) :
    WC G Tryd.prog 24 #[v] σ0 fun r σ' => Grow σ0 σ' ∧ OwnW G σ' r l ∧ ∀ b, blkOf r = some b → σ0.next ≤ b := by
  refine WC.enter (fn := Tryd.f24) Tryd.func24 rfl ?_
  refine W.know 0 (x := v) rfl ?_
  refine W.seq ?_
  refine W.region ?_
  refine RW.val (by kernel_rfl) (by kernel_rfl) rfl (by kernel_rfl) ?_
  refine RW.nil ?_
  refine W.seq ?_
  refine W.region ?_
  refine RW.makeG (x := .row ⟨[], 24, false⟩) (fm := fun b => .slice (some ⟨b, 0, none⟩) 0 0) (by kernel_rfl) (by kernel_rfl) (by kernel_rfl) (by kernel_rfl) ?_; intro σ1 _ g1 G1 n1
  refine RW.val (by kernel_rfl) (by kernel_rfl) rfl (by kernel_rfl) ?_
  obtain ⟨v', cmd, k1, k2, k3, k4, k5, k6⟩ := own_append (l2 := l) (.emp hG g1) (hk σ1 G1.old) (by omega) (by simpa using hb)
  refine RW.append (by kernel_rfl) (by kernel_rfl) rfl rfl rfl rfl k1 (by kernel_rfl) ?_
  generalize MCmd.app σ1 cmd = σ3 at k2 k3 k4 k5 ⊢
  refine RW.val (by kernel_rfl) (by kernel_rfl) rfl (by kernel_rfl) ?_
  refine RW.nil ?_
  refine W.ret ?_
  have E : OwnW G σ3 v' l := by simpa using k2
  refine endG rfl (resL_tmp rfl) ⟨⟨fun b y hy => k5 b y (G1.old b y hy) (fun e => by cases e; have := Mem.lt hy; omega), by omega, k4.trans G1.abs⟩, E, fun b hb => ?_⟩
  have hb : blkOf v' = some b := hb
  rcases k6 with k6 | k6
  · rw [k6] at hb
    cases hb
    exact Nat.le_refl _
  · rw [k6] at hb
    cases hb
    omega
end
theorem grow_old {G : Nat} {σ σ' : Mem} {e : TypeId} {s n : Nat} {v : Value} {xs : List Value} (h : GRow G σ e s v n xs) (k : ∀ b y, σ.get b = some y → σ'.get b = some y) : GRow G σ' e s v n xs := by
  cases h with
  | nil => exact .nil
  | row hq hr ht hc hl hx => exact .row hq (k _ _ hr) ht hc hl hx
theorem grow_vw {G : Nat} {σ : Mem} {v : Value} {l : List Wd} (h : GRow G σ 24 2 v l.length (wdC l)) : Vw σ v l := ⟨h.len (by kernel_rfl), fun _ => h.sl⟩
theorem srcF_old {σ σ' : Mem} {s : Nat} {v : Value} {n : Nat} {xs : List Value} (h : srcF σ s v = some (n, xs)) (k : ∀ b y, σ.get b = some y → σ'.get b = some y) : srcF σ' s v = some (n, xs) := by
  unfold srcF at h ⊢
  split at h
  · exact h
  · exact h
  · split at h
    · rename_i h0
      rw [if_pos h0]; exact h
    · rename_i h0
      rw [if_neg h0]
      split at h
      · rename_i hr
        rw [k _ _ hr]; exact h
      · cases h
  · exact h
  · cases h
def OkL (ta : Nat → Value) : List (Nat × Value) → Prop
  | [] => True
  | (k, x) :: l => ta k = x ∧ OkL ta l
def updL (ta : Nat → Value) : List (Nat × Value) → Nat → Value
  | [] => ta
  | (k, x) :: l => upd (updL ta l) k x
theorem updL_same {ta : Nat → Value} : ∀ {L : List (Nat × Value)}, OkL ta L → updL ta L = ta
  | [], _ => rfl
  | (k, x) :: l, h => by
    show upd (updL ta l) k x = ta
    rw [updL_same h.2, upd_same h.1]
theorem W.reset {P : Program} {G nt : Nat} {rd : Option Nat} {c : Code} {ta : Nat → Value} {dm : List DItem} {σ : Mem} {Q : Exit → (Nat → Value) → List DItem → Mem → Prop} (L : List (Nat × Value)) (h : OkL ta L) (k : ∀ TA, W G P rd nt c (updL TA L) dm σ Q) : W G P rd nt c ta dm σ Q := by
  have := k ta
  rwa [updL_same h] at this
end Go.Proofs.YthmfiahmfdadgaaDoor
